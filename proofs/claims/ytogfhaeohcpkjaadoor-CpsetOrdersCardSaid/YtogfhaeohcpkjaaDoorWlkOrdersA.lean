/-
  CpsetOrders: the walk of the law, in parts.
-/
import Derived.Test.YtogfhaeohcpkjaaDoorCsL
import Derived.Test.YtogfhaeohcpkjaaDoorTree
import Derived.Deep.QuietTactic
import Derived.BigQuiet
import Derived.IntWalk
import Derived.Outline
import Derived.Test.YtogfhaeohcpkjaaDoorCr4
import Derived.Test.YtogfhaeohcpkjaaDoorCt3
namespace Go.Proofs.YtogfhaeohcpkjaaDoor.LOrders
open Go.ChangeShapes Go.WideShapes Go.ChangeAt Go.RowKit Go.UtYtogfhaeohcpkjaaDoor Go.Joins
set_option maxRecDepth 100000 in
set_option maxHeartbeats 4000000 in
theorem wTT (w : World) (hd : Digs w) (hm : MaxL w) (A0 : Option Addr) (c0 : Nat) (l0 : List Rg) (_lc0 : l0.length ≤ c0) (_lm0 : c0 ≤ maxLen) (hR0 : Row w w.heap.size A0 (rgs l0)) (A1 : Option Addr) (c1 : Nat) (l1 : List Rg) (_lc1 : l1.length ≤ c1) (_lm1 : c1 ≤ maxLen) (hR1 : Row w w.heap.size A1 (rgs l1)) (A2 : Option Addr) (c2 : Nat) (l2 : List Rg) (_lc2 : l2.length ≤ c2) (_lm2 : c2 ≤ maxLen) (hR2 : Row w w.heap.size A2 (rgs l2)) (hs0 : l0.length ≤ 12) (hs1 : l1.length ≤ 12) (hs2 : l2.length ≤ 12) (HS : Hid ((decide ((l0.length : Int) ≤ 12) && decide ((l1.length : Int) ≤ 12)) = true)) (HT : Hid (decide ((l2.length : Int) ≤ 12) = true)) (hsub : subP l0 l1) (hv1 : subP l1 l0) (hv2 : subP l1 l2) :
    Calls Tryd.prog 10 #[.agg #[.slice A0 l0.length c0], .agg #[.slice A1 l1.length c1], .agg #[.slice A2 l2.length c2]] w fun e w' => e = .returned (.bool true) ∧ Below w.heap.size w w' := by
  have HD := Lib.hid hd
  have HM := Lib.hid hm
  clear hd hm
  have HB0 := Lib.hid (Below.refl w.heap.size w)
  have HR0_0 := Lib.hid hR0
  clear hR0
  have HR1_0 := Lib.hid hR1
  clear hR1
  have HR2_0 := Lib.hid hR2
  clear hR2
  have qF := run_field_set
  have hb0 := cardS_bd l0
  have hb1 := cardS_bd l1
  obtain ⟨Na, hNa⟩ : ∃ N, cardS l0 = N := ⟨_, rfl⟩
  obtain ⟨Nb, hNb⟩ : ∃ N, cardS l1 = N := ⟨_, rfl⟩
  have HCA : Hid (∀ r, Cnn r → (∀ x, hasP r x ↔ hasP l0 x) → cntR r = Na) := fun r h1 h2 => by rw [← hNa]; exact count_card h1 h2
  have HCB : Hid (∀ r, Cnn r → (∀ x, hasP r x ↔ hasP l1 x) → cntR r = Nb) := fun r h1 h2 => by rw [← hNb]; exact count_card h1 h2
  have HNA := Lib.hid hNa
  have HNB := Lib.hid hNb
  rw [hNa] at hb0
  rw [hNb] at hb1
  obtain ⟨a1, a2⟩ := hb0
  obtain ⟨b1', b2'⟩ := hb1
  clear hNa hNb
  have HSUB := Lib.hid hsub
  have hle : Na ≤ Nb := by rw [← HNA.out, ← HNB.out]; exact cardS_sub hsub
  clear hsub
  have HV1 := Lib.hid hv1
  clear hv1
  have HV2 := Lib.hid hv2
  clear hv2
  go_enter Tryd.func10, Tryd.ntmps10
  go_wp2_with fail
  obtain ⟨n1, hv, hbb, hk0, hk1, hk2⟩ : ∃ v, v = (((w.alloc (.cells #[.slice A0 l0.length c0] 24)).alloc (.cells #[.slice A1 l1.length c1] 24)).alloc (.cells #[.slice A2 l2.length c2] 24)) ∧ Below w.heap.size w v ∧ Blk v (w.heap.size) 24 #[.slice A0 l0.length c0] ∧ Blk v (w.heap.size + 1) 24 #[.slice A1 l1.length c1] ∧ Blk v (w.heap.size + 1 + 1) 24 #[.slice A2 l2.length c2] :=
    ⟨_, rfl, (((Below.refl _ _).alloc (Nat.le_refl _) _).alloc (by simp; try omega) _).alloc (by simp; try omega) _, ((Blk.at_new (by simp; try omega)).alloc _).alloc _, (Blk.at_new (by simp; try omega)).alloc _, Blk.at_new (by simp; try omega)⟩
  rw [← hv]
  clear hv
  obtain ⟨b2, ha⟩ : ∃ a, a = w.heap.size + 1 + 1 := ⟨_, rfl⟩
  rw [← ha] at hk2 ⊢
  clear ha
  obtain ⟨b1, ha⟩ : ∃ a, a = w.heap.size + 1 := ⟨_, rfl⟩
  rw [← ha] at hk1 ⊢
  clear ha
  obtain ⟨b0, ha⟩ : ∃ a, a = w.heap.size := ⟨_, rfl⟩
  rw [← ha] at hk0 ⊢
  clear ha
  have hbc := hbb
  have HB2 := Lib.hid (below_then HB0.out hbc (Nat.le_refl _))
  have HR0_2 := Lib.hid ((HR0_0.out.below hbc).lt)
  have HR1_2 := Lib.hid ((HR1_0.out.below hbc).lt)
  have HR2_2 := Lib.hid ((HR2_0.out.below hbc).lt)
  have K0_2 := Lib.hid (hk0)
  have K1_2 := Lib.hid (hk1)
  have K2_2 := Lib.hid (hk2)
  clear hbc HB0 HR0_0 HR1_0 HR2_0 hbb hk0 hk1 hk2
  refine (small2_any A0 A1 _ _ c0 c1 _ _ HS.out).mono ?_
  rintro e w3 ⟨rfl, hb⟩
  have hbc := hb
  have HB4 := Lib.hid (below_then HB2.out hbc (Nat.le_refl _))
  have HR0_4 := Lib.hid ((HR0_2.out.below hbc).lt)
  have HR1_4 := Lib.hid ((HR1_2.out.below hbc).lt)
  have HR2_4 := Lib.hid ((HR2_2.out.below hbc).lt)
  have K0_4 := Lib.hid (K0_2.out.after hbc)
  have K1_4 := Lib.hid (K1_2.out.after hbc)
  have K2_4 := Lib.hid (K2_2.out.after hbc)
  clear hbc HB2 HR0_2 HR1_2 HR2_2 K0_2 K1_2 K2_2 hb
  have eK2_ := K2_4.out.cell 0
  have lK2_ := K2_4.out.lt
  simp at eK2_
  go_wp2_with fail
  clear eK2_ lK2_
  refine (small_any A2 _ c2 _ _ HT.out).mono ?_
  rintro e w5 ⟨rfl, hb⟩
  have hbc := hb
  have HB6 := Lib.hid (below_then HB4.out hbc (Nat.le_refl _))
  have HR0_6 := Lib.hid ((HR0_4.out.below hbc).lt)
  have HR1_6 := Lib.hid ((HR1_4.out.below hbc).lt)
  have HR2_6 := Lib.hid ((HR2_4.out.below hbc).lt)
  have K0_6 := Lib.hid (K0_4.out.after hbc)
  have K1_6 := Lib.hid (K1_4.out.after hbc)
  have K2_6 := Lib.hid (K2_4.out.after hbc)
  clear hbc HB4 HR0_4 HR1_4 HR2_4 K0_4 K1_4 K2_4 hb
  have eK0_ := K0_6.out.cell 0
  have lK0_ := K0_6.out.lt
  simp at eK0_
  have eK1_ := K1_6.out.cell 0
  have lK1_ := K1_6.out.lt
  simp at eK1_
  go_wp2_with fail
  clear eK0_ lK0_
  clear eK1_ lK1_
  refine (subset_any A0 A1 c0 c1 l0 l1 _ HR0_6.out HR1_6.out (by omega) (by omega) true ⟨fun _ => HSUB.out, fun _ => rfl⟩).mono ?_
  rintro e w7 ⟨rfl, hb⟩
  have hbc := hb
  have HB8 := Lib.hid (below_then HB6.out hbc (Nat.le_refl _))
  have HR0_8 := Lib.hid ((HR0_6.out.below hbc).lt)
  have HR1_8 := Lib.hid ((HR1_6.out.below hbc).lt)
  have HR2_8 := Lib.hid ((HR2_6.out.below hbc).lt)
  have K0_8 := Lib.hid (K0_6.out.after hbc)
  have K1_8 := Lib.hid (K1_6.out.after hbc)
  have K2_8 := Lib.hid (K2_6.out.after hbc)
  clear hbc HB6 HR0_6 HR1_6 HR2_6 K0_6 K1_6 K2_6 hb
  go_wp2_with fail
  refine wp_region_tree (fun w' => Below w.heap.size w w' ∧ Blk w' b0 24 #[.slice A0 l0.length c0] ∧ Blk w' b1 24 #[.slice A1 l1.length c1] ∧ Blk w' b2 24 #[.slice A2 l2.length c2]) (.float 0 (.float 1 (.float 2 (.one 3 (.float 4 (.float 5 (.float 6 (.float 7 (.float 8 (.float 9 (.float 10 (.float 11 (.float 13 (.float 14 (.one 12 (.one 15 (.one 16 (.float 17 (.float 18 (.float 19 (.float 20 (.float 21 (.float 23 (.float 24 (.one 22 (.one 25 (.one 26 (.one 27 (.float 28 (.float 29 .done)))))))))))))))))))))))))))))) (by kernel_rfl) (by kernel_rfl) (fun _ _ d _ _ h => by cases d <;> exact h) ⟨HB8.out.drew, K0_8.out.drew, K1_8.out.drew, K2_8.out.drew⟩ ?_
  obtain ⟨d9, hdr, hbd⟩ : ∃ d, d = w7.drew ∧ Below w7.heap.size w7 d := ⟨_, rfl, (Below.refl _ _).drew⟩
  rw [← hdr]
  clear hdr
  have hbc := hbd
  have HB10 := Lib.hid (below_then HB8.out hbc (Nat.le_refl _))
  have HR0_10 := Lib.hid ((HR0_8.out.below hbc).lt)
  have HR1_10 := Lib.hid ((HR1_8.out.below hbc).lt)
  have HR2_10 := Lib.hid ((HR2_8.out.below hbc).lt)
  have K0_10 := Lib.hid (K0_8.out.after hbc)
  have K1_10 := Lib.hid (K1_8.out.after hbc)
  have K2_10 := Lib.hid (K2_8.out.after hbc)
  clear hbc HB8 HR0_8 HR1_8 HR2_8 K0_8 K1_8 K2_8 hbd
  repeat (first
    | (refine wpTr_fskip (by simp only [List.getElem?_toArray, List.getElem?_cons_zero, List.getElem?_cons_succ]; rfl) (by rfl) ?_
       simp only [Act.put, List.setIfInBounds_toArray, List.set_cons_zero, List.set_cons_succ])
    | (refine wpTr_float (v := ?_) (by simp only [List.getElem?_toArray, List.getElem?_cons_zero, List.getElem?_cons_succ]; rfl) (by rfl) (fun w' hS => ?_) ?_
       rotate_left
       (obtain ⟨hSb, hSb0, hSb1, hSb2⟩ := hS; have eSb0 := hSb0.cell 0; have lSb0 := hSb0.lt; simp at eSb0; have eSb1 := hSb1.cell 0; have lSb1 := hSb1.lt; simp at eSb1; have eSb2 := hSb2.cell 0; have lSb2 := hSb2.lt; simp at eSb2; go_simp; first | done | rfl)
       simp only [Act.put, List.setIfInBounds_toArray, List.set_cons_zero, List.set_cons_succ]))
  refine wpTr_one ?_
  refine stepTr_K (by simp only [List.getElem?_toArray, List.getElem?_cons_zero, List.getElem?_cons_succ]; rfl) (by rfl) (fun K hK => ?_)
  go_simp
  refine (minus_any A0 A1 c0 c1 l0 l1 _ HR0_10.out HR1_10.out (by omega) (by omega)).mono ?_
  rintro e w11 ⟨Ap1, cp1, rp1, rfl, hc, hh, hr, hb⟩
  have hbc := hb
  have HB12 := Lib.hid (below_then HB10.out hbc (Nat.le_refl _))
  have HR0_12 := Lib.hid ((HR0_10.out.below hbc).lt)
  have HR1_12 := Lib.hid ((HR1_10.out.below hbc).lt)
  have HR2_12 := Lib.hid ((HR2_10.out.below hbc).lt)
  have K0_12 := Lib.hid (K0_10.out.after hbc)
  have K1_12 := Lib.hid (K1_10.out.after hbc)
  have K2_12 := Lib.hid (K2_10.out.after hbc)
  have Rp1_12 := Lib.hid (hr)
  clear hbc HB10 HR0_10 HR1_10 HR2_10 K0_10 K1_10 K2_10 hb hr
  have Cp1 := Lib.hid hc
  have Mp1 := Lib.hid hh
  clear hc hh
  obtain rfl : rp1 = [] := List.eq_nil_of_length_eq_zero ((can_empty Cp1.out).2 (fun x => by simp only [Mp1.out]; rintro ⟨h1, h2⟩; exact h2 (HSUB.out x h1)))
  refine hK.out _ _ ⟨HB12.out, K0_12.out, K1_12.out, K2_12.out⟩ ?_
  clear hK K
  try simp only [Act.put, List.setIfInBounds_toArray, List.set_cons_zero, List.set_cons_succ]
  repeat (first
    | (refine wpTr_fskip (by simp only [List.getElem?_toArray, List.getElem?_cons_zero, List.getElem?_cons_succ]; rfl) (by rfl) ?_
       simp only [Act.put, List.setIfInBounds_toArray, List.set_cons_zero, List.set_cons_succ])
    | (refine wpTr_float (v := ?_) (by simp only [List.getElem?_toArray, List.getElem?_cons_zero, List.getElem?_cons_succ]; rfl) (by rfl) (fun w' hS => ?_) ?_
       rotate_left
       (obtain ⟨hSb, hSb0, hSb1, hSb2⟩ := hS; have eSb0 := hSb0.cell 0; have lSb0 := hSb0.lt; simp at eSb0; have eSb1 := hSb1.cell 0; have lSb1 := hSb1.lt; simp at eSb1; have eSb2 := hSb2.cell 0; have lSb2 := hSb2.lt; simp at eSb2; go_simp; first | done | rfl)
       simp only [Act.put, List.setIfInBounds_toArray, List.set_cons_zero, List.set_cons_succ]))
  refine wpTr_one ?_
  refine stepTr_K (by simp only [List.getElem?_toArray, List.getElem?_cons_zero, List.getElem?_cons_succ]; rfl) (by rfl) (fun K hK => ?_)
  go_simp
  refine (or_any A0 A1 c0 c1 l0 l1 _ HR0_12.out HR1_12.out (by omega) (by omega)).mono ?_
  rintro e w13 ⟨Ap2, cp2, rp2, rfl, hc, hh, hr, hb⟩
  have hbc := hb
  have HB14 := Lib.hid (below_then HB12.out hbc (Nat.le_refl _))
  have HR0_14 := Lib.hid ((HR0_12.out.below hbc).lt)
  have HR1_14 := Lib.hid ((HR1_12.out.below hbc).lt)
  have HR2_14 := Lib.hid ((HR2_12.out.below hbc).lt)
  have K0_14 := Lib.hid (K0_12.out.after hbc)
  have K1_14 := Lib.hid (K1_12.out.after hbc)
  have K2_14 := Lib.hid (K2_12.out.after hbc)
  have Rp1_14 := Lib.hid ((Rp1_12.out.below hbc).lt)
  have Rp2_14 := Lib.hid (hr)
  clear hbc HB12 HR0_12 HR1_12 HR2_12 K0_12 K1_12 K2_12 Rp1_12 hb hr
  have Cp2 := Lib.hid hc
  have Mp2 := Lib.hid hh
  clear hc hh
  refine hK.out _ _ ⟨HB14.out, K0_14.out, K1_14.out, K2_14.out⟩ ?_
  clear hK K
  try simp only [Act.put, List.setIfInBounds_toArray, List.set_cons_zero, List.set_cons_succ]
  refine wpTr_one ?_
  refine stepTr_K (by simp only [List.getElem?_toArray, List.getElem?_cons_zero, List.getElem?_cons_succ]; rfl) (by rfl) (fun K hK => ?_)
  go_simp
  refine (make_any A1 c1 l1 _ HR1_14.out (by omega)).mono ?_
  rintro e w15 ⟨Ap3, cp3, rp3, rfl, hc, hh, hr, hb⟩
  have hbc := hb
  have HB16 := Lib.hid (below_then HB14.out hbc (Nat.le_refl _))
  have HR0_16 := Lib.hid ((HR0_14.out.below hbc).lt)
  have HR1_16 := Lib.hid ((HR1_14.out.below hbc).lt)
  have HR2_16 := Lib.hid ((HR2_14.out.below hbc).lt)
  have K0_16 := Lib.hid (K0_14.out.after hbc)
  have K1_16 := Lib.hid (K1_14.out.after hbc)
  have K2_16 := Lib.hid (K2_14.out.after hbc)
  have Rp1_16 := Lib.hid ((Rp1_14.out.below hbc).lt)
  have Rp2_16 := Lib.hid ((Rp2_14.out.below hbc).lt)
  have Rp3_16 := Lib.hid (hr)
  clear hbc HB14 HR0_14 HR1_14 HR2_14 K0_14 K1_14 K2_14 Rp1_14 Rp2_14 hb hr
  have Cp3 := Lib.hid hc
  have Mp3 := Lib.hid hh
  clear hc hh
  refine hK.out _ _ ⟨HB16.out, K0_16.out, K1_16.out, K2_16.out⟩ ?_
  clear hK K
  try simp only [Act.put, List.setIfInBounds_toArray, List.set_cons_zero, List.set_cons_succ]
  refine wpTr_one ?_
  refine stepTr_K (by simp only [List.getElem?_toArray, List.getElem?_cons_zero, List.getElem?_cons_succ]; rfl) (by rfl) (fun K hK => ?_)
  go_simp
  refine (same_any Ap2 Ap3 cp2 cp3 _ _ rp2 rp3 rfl rfl _ Rp2_16.out Rp3_16.out (by have := can_len Cp2.out; simp only [maxLen]; omega) (by have := can_len Cp3.out; simp only [maxLen]; omega) true (decide_eq_true (can_eq Cp2.out Cp3.out (fun x => by
          simp only [Mp2.out, Mp3.out]
          exact ⟨fun h => h.elim (HSUB.out x) id, .inr⟩)))).mono ?_
  rintro e w17 ⟨rfl, hb⟩
  have hbc := hb
  have HB18 := Lib.hid (below_then HB16.out hbc (Nat.le_refl _))
  have HR0_18 := Lib.hid ((HR0_16.out.below hbc).lt)
  have HR1_18 := Lib.hid ((HR1_16.out.below hbc).lt)
  have HR2_18 := Lib.hid ((HR2_16.out.below hbc).lt)
  have K0_18 := Lib.hid (K0_16.out.after hbc)
  have K1_18 := Lib.hid (K1_16.out.after hbc)
  have K2_18 := Lib.hid (K2_16.out.after hbc)
  have Rp1_18 := Lib.hid ((Rp1_16.out.below hbc).lt)
  have Rp2_18 := Lib.hid ((Rp2_16.out.below hbc).lt)
  have Rp3_18 := Lib.hid ((Rp3_16.out.below hbc).lt)
  clear hbc HB16 HR0_16 HR1_16 HR2_16 K0_16 K1_16 K2_16 Rp1_16 Rp2_16 Rp3_16 hb
  refine hK.out _ _ ⟨HB18.out, K0_18.out, K1_18.out, K2_18.out⟩ ?_
  clear hK K
  try simp only [Act.put, List.setIfInBounds_toArray, List.set_cons_zero, List.set_cons_succ]
  repeat (first
    | (refine wpTr_fskip (by simp only [List.getElem?_toArray, List.getElem?_cons_zero, List.getElem?_cons_succ]; rfl) (by rfl) ?_
       simp only [Act.put, List.setIfInBounds_toArray, List.set_cons_zero, List.set_cons_succ])
    | (refine wpTr_float (v := ?_) (by simp only [List.getElem?_toArray, List.getElem?_cons_zero, List.getElem?_cons_succ]; rfl) (by rfl) (fun w' hS => ?_) ?_
       rotate_left
       (obtain ⟨hSb, hSb0, hSb1, hSb2⟩ := hS; have eSb0 := hSb0.cell 0; have lSb0 := hSb0.lt; simp at eSb0; have eSb1 := hSb1.cell 0; have lSb1 := hSb1.lt; simp at eSb1; have eSb2 := hSb2.cell 0; have lSb2 := hSb2.lt; simp at eSb2; go_simp; first | done | rfl)
       simp only [Act.put, List.setIfInBounds_toArray, List.set_cons_zero, List.set_cons_succ]))
  refine wpTr_one ?_
  refine stepTr_K (by simp only [List.getElem?_toArray, List.getElem?_cons_zero, List.getElem?_cons_succ]; rfl) (by rfl) (fun K hK => ?_)
  go_simp
  refine (minus_any A0 A1 c0 c1 l0 l1 _ HR0_18.out HR1_18.out (by omega) (by omega)).mono ?_
  rintro e w19 ⟨Ap4, cp4, rp4, rfl, hc, hh, hr, hb⟩
  have hbc := hb
  have HB20 := Lib.hid (below_then HB18.out hbc (Nat.le_refl _))
  have HR0_20 := Lib.hid ((HR0_18.out.below hbc).lt)
  have HR1_20 := Lib.hid ((HR1_18.out.below hbc).lt)
  have HR2_20 := Lib.hid ((HR2_18.out.below hbc).lt)
  have K0_20 := Lib.hid (K0_18.out.after hbc)
  have K1_20 := Lib.hid (K1_18.out.after hbc)
  have K2_20 := Lib.hid (K2_18.out.after hbc)
  have Rp1_20 := Lib.hid ((Rp1_18.out.below hbc).lt)
  have Rp2_20 := Lib.hid ((Rp2_18.out.below hbc).lt)
  have Rp3_20 := Lib.hid ((Rp3_18.out.below hbc).lt)
  have Rp4_20 := Lib.hid (hr)
  clear hbc HB18 HR0_18 HR1_18 HR2_18 K0_18 K1_18 K2_18 Rp1_18 Rp2_18 Rp3_18 hb hr
  have Cp4 := Lib.hid hc
  have Mp4 := Lib.hid hh
  clear hc hh
  refine hK.out _ _ ⟨HB20.out, K0_20.out, K1_20.out, K2_20.out⟩ ?_
  clear hK K
  try simp only [Act.put, List.setIfInBounds_toArray, List.set_cons_zero, List.set_cons_succ]
  refine wpTr_one ?_
  refine stepTr_K (by simp only [List.getElem?_toArray, List.getElem?_cons_zero, List.getElem?_cons_succ]; rfl) (by rfl) (fun K hK => ?_)
  go_simp
  refine (not_any A1 c1 l1 _ HR1_20.out (by omega)).mono ?_
  rintro e w21 ⟨Ap5, cp5, rp5, rfl, hc, hh, hr, hb⟩
  have hbc := hb
  have HB22 := Lib.hid (below_then HB20.out hbc (Nat.le_refl _))
  have HR0_22 := Lib.hid ((HR0_20.out.below hbc).lt)
  have HR1_22 := Lib.hid ((HR1_20.out.below hbc).lt)
  have HR2_22 := Lib.hid ((HR2_20.out.below hbc).lt)
  have K0_22 := Lib.hid (K0_20.out.after hbc)
  have K1_22 := Lib.hid (K1_20.out.after hbc)
  have K2_22 := Lib.hid (K2_20.out.after hbc)
  have Rp1_22 := Lib.hid ((Rp1_20.out.below hbc).lt)
  have Rp2_22 := Lib.hid ((Rp2_20.out.below hbc).lt)
  have Rp3_22 := Lib.hid ((Rp3_20.out.below hbc).lt)
  have Rp4_22 := Lib.hid ((Rp4_20.out.below hbc).lt)
  have Rp5_22 := Lib.hid (hr)
  clear hbc HB20 HR0_20 HR1_20 HR2_20 K0_20 K1_20 K2_20 Rp1_20 Rp2_20 Rp3_20 Rp4_20 hb hr
  have Cp5 := Lib.hid hc
  have Mp5 := Lib.hid hh
  clear hc hh
  refine hK.out _ _ ⟨HB22.out, K0_22.out, K1_22.out, K2_22.out⟩ ?_
  clear hK K
  try simp only [Act.put, List.setIfInBounds_toArray, List.set_cons_zero, List.set_cons_succ]
  refine wpTr_one ?_
  refine stepTr_K (by simp only [List.getElem?_toArray, List.getElem?_cons_zero, List.getElem?_cons_succ]; rfl) (by rfl) (fun K hK => ?_)
  go_simp
  refine (and_any A0 Ap5 c0 cp5 l0 rp5 _ HR0_22.out Rp5_22.out (by omega) (by have := can_len Cp5.out; omega)).mono ?_
  rintro e w23 ⟨Ap6, cp6, rp6, rfl, hc, hh, hr, hb⟩
  have hbc := hb
  have HB24 := Lib.hid (below_then HB22.out hbc (Nat.le_refl _))
  have HR0_24 := Lib.hid ((HR0_22.out.below hbc).lt)
  have HR1_24 := Lib.hid ((HR1_22.out.below hbc).lt)
  have HR2_24 := Lib.hid ((HR2_22.out.below hbc).lt)
  have K0_24 := Lib.hid (K0_22.out.after hbc)
  have K1_24 := Lib.hid (K1_22.out.after hbc)
  have K2_24 := Lib.hid (K2_22.out.after hbc)
  have Rp1_24 := Lib.hid ((Rp1_22.out.below hbc).lt)
  have Rp2_24 := Lib.hid ((Rp2_22.out.below hbc).lt)
  have Rp3_24 := Lib.hid ((Rp3_22.out.below hbc).lt)
  have Rp4_24 := Lib.hid ((Rp4_22.out.below hbc).lt)
  have Rp5_24 := Lib.hid ((Rp5_22.out.below hbc).lt)
  have Rp6_24 := Lib.hid (hr)
  clear hbc HB22 HR0_22 HR1_22 HR2_22 K0_22 K1_22 K2_22 Rp1_22 Rp2_22 Rp3_22 Rp4_22 Rp5_22 hb hr
  have Cp6 := Lib.hid hc
  have Mp6 := Lib.hid hh
  clear hc hh
  refine hK.out _ _ ⟨HB24.out, K0_24.out, K1_24.out, K2_24.out⟩ ?_
  clear hK K
  try simp only [Act.put, List.setIfInBounds_toArray, List.set_cons_zero, List.set_cons_succ]
  refine wpTr_one ?_
  refine stepTr_K (by simp only [List.getElem?_toArray, List.getElem?_cons_zero, List.getElem?_cons_succ]; rfl) (by rfl) (fun K hK => ?_)
  go_simp
  refine (same_any Ap4 Ap6 cp4 cp6 _ _ rp4 rp6 rfl rfl _ Rp4_24.out Rp6_24.out (by have := can_len Cp4.out; simp only [maxLen]; omega) (by have := can_len Cp6.out; simp only [maxLen]; omega) true (decide_eq_true (can_eq Cp4.out Cp6.out (fun x => by
        simp only [Mp4.out, Mp6.out, Mp5.out]
        all_goals (by_cases hk : codeP x <;> by_cases hh0 : hasP l0 x <;> by_cases hh1 : hasP l1 x <;> first | (simp [hk, hh0, hh1]; done) | exact absurd hh0.1 hk | exact absurd hh1.1 hk))))).mono ?_
  rintro e w25 ⟨rfl, hb⟩
  have hbc := hb
  have HB26 := Lib.hid (below_then HB24.out hbc (Nat.le_refl _))
  have HR0_26 := Lib.hid ((HR0_24.out.below hbc).lt)
  have HR1_26 := Lib.hid ((HR1_24.out.below hbc).lt)
  have HR2_26 := Lib.hid ((HR2_24.out.below hbc).lt)
  have K0_26 := Lib.hid (K0_24.out.after hbc)
  have K1_26 := Lib.hid (K1_24.out.after hbc)
  have K2_26 := Lib.hid (K2_24.out.after hbc)
  have Rp1_26 := Lib.hid ((Rp1_24.out.below hbc).lt)
  have Rp2_26 := Lib.hid ((Rp2_24.out.below hbc).lt)
  have Rp3_26 := Lib.hid ((Rp3_24.out.below hbc).lt)
  have Rp4_26 := Lib.hid ((Rp4_24.out.below hbc).lt)
  have Rp5_26 := Lib.hid ((Rp5_24.out.below hbc).lt)
  have Rp6_26 := Lib.hid ((Rp6_24.out.below hbc).lt)
  clear hbc HB24 HR0_24 HR1_24 HR2_24 K0_24 K1_24 K2_24 Rp1_24 Rp2_24 Rp3_24 Rp4_24 Rp5_24 Rp6_24 hb
  refine hK.out _ _ ⟨HB26.out, K0_26.out, K1_26.out, K2_26.out⟩ ?_
  clear hK K
  try simp only [Act.put, List.setIfInBounds_toArray, List.set_cons_zero, List.set_cons_succ]
  repeat (first
    | (refine wpTr_fskip (by simp only [List.getElem?_toArray, List.getElem?_cons_zero, List.getElem?_cons_succ]; rfl) (by rfl) ?_
       simp only [Act.put, List.setIfInBounds_toArray, List.set_cons_zero, List.set_cons_succ])
    | (refine wpTr_float (v := ?_) (by simp only [List.getElem?_toArray, List.getElem?_cons_zero, List.getElem?_cons_succ]; rfl) (by rfl) (fun w' hS => ?_) ?_
       rotate_left
       (obtain ⟨hSb, hSb0, hSb1, hSb2⟩ := hS; have eSb0 := hSb0.cell 0; have lSb0 := hSb0.lt; simp at eSb0; have eSb1 := hSb1.cell 0; have lSb1 := hSb1.lt; simp at eSb1; have eSb2 := hSb2.cell 0; have lSb2 := hSb2.lt; simp at eSb2; go_simp; first | done | rfl)
       simp only [Act.put, List.setIfInBounds_toArray, List.set_cons_zero, List.set_cons_succ]))
  refine wpTr_done ?_
  go_wp2_with fail
  refine wp_region_tree (fun w' => Below w.heap.size w w' ∧ Blk w' b0 24 #[.slice A0 l0.length c0] ∧ Blk w' b1 24 #[.slice A1 l1.length c1] ∧ Blk w' b2 24 #[.slice A2 l2.length c2]) (.float 0 (.float 1 (.float 2 (.float 3 (.float 5 (.float 6 (.float 8 (.float 9 (.one 4 (.one 7 (.one 10 (.one 11 (.float 12 (.float 13 (.float 14 (.float 15 (.float 16 (.float 17 (.float 18 (.one 19 (.float 20 (.float 21 (.float 22 (.float 23 (.one 24 (.float 25 (.float 26 (.float 27 (.float 28 (.float 29 (.float 30 (.float 31 (.float 33 (.one 32 (.one 34 (.float 35 (.float 36 (.float 37 .done)))))))))))))))))))))))))))))))))))))) (by kernel_rfl) (by kernel_rfl) (fun _ _ d _ _ h => by cases d <;> exact h) ⟨HB26.out.drew, K0_26.out.drew, K1_26.out.drew, K2_26.out.drew⟩ ?_
  obtain ⟨d27, hdr, hbd⟩ : ∃ d, d = w25.drew ∧ Below w25.heap.size w25 d := ⟨_, rfl, (Below.refl _ _).drew⟩
  rw [← hdr]
  clear hdr
  have hbc := hbd
  have HB28 := Lib.hid (below_then HB26.out hbc (Nat.le_refl _))
  have HR0_28 := Lib.hid ((HR0_26.out.below hbc).lt)
  have HR1_28 := Lib.hid ((HR1_26.out.below hbc).lt)
  have HR2_28 := Lib.hid ((HR2_26.out.below hbc).lt)
  have K0_28 := Lib.hid (K0_26.out.after hbc)
  have K1_28 := Lib.hid (K1_26.out.after hbc)
  have K2_28 := Lib.hid (K2_26.out.after hbc)
  have Rp1_28 := Lib.hid ((Rp1_26.out.below hbc).lt)
  have Rp2_28 := Lib.hid ((Rp2_26.out.below hbc).lt)
  have Rp3_28 := Lib.hid ((Rp3_26.out.below hbc).lt)
  have Rp4_28 := Lib.hid ((Rp4_26.out.below hbc).lt)
  have Rp5_28 := Lib.hid ((Rp5_26.out.below hbc).lt)
  have Rp6_28 := Lib.hid ((Rp6_26.out.below hbc).lt)
  clear hbc HB26 HR0_26 HR1_26 HR2_26 K0_26 K1_26 K2_26 Rp1_26 Rp2_26 Rp3_26 Rp4_26 Rp5_26 Rp6_26 hbd
  repeat (first
    | (refine wpTr_fskip (by simp only [List.getElem?_toArray, List.getElem?_cons_zero, List.getElem?_cons_succ]; rfl) (by rfl) ?_
       simp only [Act.put, List.setIfInBounds_toArray, List.set_cons_zero, List.set_cons_succ])
    | (refine wpTr_float (v := ?_) (by simp only [List.getElem?_toArray, List.getElem?_cons_zero, List.getElem?_cons_succ]; rfl) (by rfl) (fun w' hS => ?_) ?_
       rotate_left
       (obtain ⟨hSb, hSb0, hSb1, hSb2⟩ := hS; have eSb0 := hSb0.cell 0; have lSb0 := hSb0.lt; simp at eSb0; have eSb1 := hSb1.cell 0; have lSb1 := hSb1.lt; simp at eSb1; have eSb2 := hSb2.cell 0; have lSb2 := hSb2.lt; simp at eSb2; go_simp; first | done | rfl)
       simp only [Act.put, List.setIfInBounds_toArray, List.set_cons_zero, List.set_cons_succ]))
  refine wpTr_one ?_
  refine stepTr_K (by simp only [List.getElem?_toArray, List.getElem?_cons_zero, List.getElem?_cons_succ]; rfl) (by rfl) (fun K hK => ?_)
  go_simp
  refine (subset_any A1 A0 c1 c0 l1 l0 _ HR1_28.out HR0_28.out (by omega) (by omega) true ⟨fun _ => HV1.out, fun _ => rfl⟩).mono ?_
  rintro e w29 ⟨rfl, hb⟩
  have hbc := hb
  have HB30 := Lib.hid (below_then HB28.out hbc (Nat.le_refl _))
  have HR0_30 := Lib.hid ((HR0_28.out.below hbc).lt)
  have HR1_30 := Lib.hid ((HR1_28.out.below hbc).lt)
  have HR2_30 := Lib.hid ((HR2_28.out.below hbc).lt)
  have K0_30 := Lib.hid (K0_28.out.after hbc)
  have K1_30 := Lib.hid (K1_28.out.after hbc)
  have K2_30 := Lib.hid (K2_28.out.after hbc)
  have Rp1_30 := Lib.hid ((Rp1_28.out.below hbc).lt)
  have Rp2_30 := Lib.hid ((Rp2_28.out.below hbc).lt)
  have Rp3_30 := Lib.hid ((Rp3_28.out.below hbc).lt)
  have Rp4_30 := Lib.hid ((Rp4_28.out.below hbc).lt)
  have Rp5_30 := Lib.hid ((Rp5_28.out.below hbc).lt)
  have Rp6_30 := Lib.hid ((Rp6_28.out.below hbc).lt)
  clear hbc HB28 HR0_28 HR1_28 HR2_28 K0_28 K1_28 K2_28 Rp1_28 Rp2_28 Rp3_28 Rp4_28 Rp5_28 Rp6_28 hb
  refine hK.out _ _ ⟨HB30.out, K0_30.out, K1_30.out, K2_30.out⟩ ?_
  clear hK K
  try simp only [Act.put, List.setIfInBounds_toArray, List.set_cons_zero, List.set_cons_succ]
  refine wpTr_one ?_
  refine stepTr_K (by simp only [List.getElem?_toArray, List.getElem?_cons_zero, List.getElem?_cons_succ]; rfl) (by rfl) (fun K hK => ?_)
  go_simp
  refine (make_any A0 c0 l0 _ HR0_30.out (by omega)).mono ?_
  rintro e w31 ⟨Aq1, cq1, rq1, rfl, hc, hh, hr, hb⟩
  have hbc := hb
  have HB32 := Lib.hid (below_then HB30.out hbc (Nat.le_refl _))
  have HR0_32 := Lib.hid ((HR0_30.out.below hbc).lt)
  have HR1_32 := Lib.hid ((HR1_30.out.below hbc).lt)
  have HR2_32 := Lib.hid ((HR2_30.out.below hbc).lt)
  have K0_32 := Lib.hid (K0_30.out.after hbc)
  have K1_32 := Lib.hid (K1_30.out.after hbc)
  have K2_32 := Lib.hid (K2_30.out.after hbc)
  have Rp1_32 := Lib.hid ((Rp1_30.out.below hbc).lt)
  have Rp2_32 := Lib.hid ((Rp2_30.out.below hbc).lt)
  have Rp3_32 := Lib.hid ((Rp3_30.out.below hbc).lt)
  have Rp4_32 := Lib.hid ((Rp4_30.out.below hbc).lt)
  have Rp5_32 := Lib.hid ((Rp5_30.out.below hbc).lt)
  have Rp6_32 := Lib.hid ((Rp6_30.out.below hbc).lt)
  have Rq1_32 := Lib.hid (hr)
  clear hbc HB30 HR0_30 HR1_30 HR2_30 K0_30 K1_30 K2_30 Rp1_30 Rp2_30 Rp3_30 Rp4_30 Rp5_30 Rp6_30 hb hr
  have Cq1 := Lib.hid hc
  have Mq1 := Lib.hid hh
  clear hc hh
  refine hK.out _ _ ⟨HB32.out, K0_32.out, K1_32.out, K2_32.out⟩ ?_
  clear hK K
  try simp only [Act.put, List.setIfInBounds_toArray, List.set_cons_zero, List.set_cons_succ]
  refine wpTr_one ?_
  refine stepTr_K (by simp only [List.getElem?_toArray, List.getElem?_cons_zero, List.getElem?_cons_succ]; rfl) (by rfl) (fun K hK => ?_)
  go_simp
  refine (make_any A1 c1 l1 _ HR1_32.out (by omega)).mono ?_
  rintro e w33 ⟨Aq2, cq2, rq2, rfl, hc, hh, hr, hb⟩
  have hbc := hb
  have HB34 := Lib.hid (below_then HB32.out hbc (Nat.le_refl _))
  have HR0_34 := Lib.hid ((HR0_32.out.below hbc).lt)
  have HR1_34 := Lib.hid ((HR1_32.out.below hbc).lt)
  have HR2_34 := Lib.hid ((HR2_32.out.below hbc).lt)
  have K0_34 := Lib.hid (K0_32.out.after hbc)
  have K1_34 := Lib.hid (K1_32.out.after hbc)
  have K2_34 := Lib.hid (K2_32.out.after hbc)
  have Rp1_34 := Lib.hid ((Rp1_32.out.below hbc).lt)
  have Rp2_34 := Lib.hid ((Rp2_32.out.below hbc).lt)
  have Rp3_34 := Lib.hid ((Rp3_32.out.below hbc).lt)
  have Rp4_34 := Lib.hid ((Rp4_32.out.below hbc).lt)
  have Rp5_34 := Lib.hid ((Rp5_32.out.below hbc).lt)
  have Rp6_34 := Lib.hid ((Rp6_32.out.below hbc).lt)
  have Rq1_34 := Lib.hid ((Rq1_32.out.below hbc).lt)
  have Rq2_34 := Lib.hid (hr)
  clear hbc HB32 HR0_32 HR1_32 HR2_32 K0_32 K1_32 K2_32 Rp1_32 Rp2_32 Rp3_32 Rp4_32 Rp5_32 Rp6_32 Rq1_32 hb hr
  have Cq2 := Lib.hid hc
  have Mq2 := Lib.hid hh
  clear hc hh
  refine hK.out _ _ ⟨HB34.out, K0_34.out, K1_34.out, K2_34.out⟩ ?_
  clear hK K
  try simp only [Act.put, List.setIfInBounds_toArray, List.set_cons_zero, List.set_cons_succ]
  refine wpTr_one ?_
  refine stepTr_K (by simp only [List.getElem?_toArray, List.getElem?_cons_zero, List.getElem?_cons_succ]; rfl) (by rfl) (fun K hK => ?_)
  go_simp
  refine (same_any Aq1 Aq2 cq1 cq2 _ _ rq1 rq2 rfl rfl _ Rq1_34.out Rq2_34.out (by have := can_len Cq1.out; simp only [maxLen]; omega) (by have := can_len Cq2.out; simp only [maxLen]; omega) true (decide_eq_true (can_eq Cq1.out Cq2.out (fun x => by
          simp only [Mq1.out, Mq2.out]
          exact ⟨HSUB.out x, HV1.out x⟩)))).mono ?_
  rintro e w35 ⟨rfl, hb⟩
  have hbc := hb
  have HB36 := Lib.hid (below_then HB34.out hbc (Nat.le_refl _))
  have HR0_36 := Lib.hid ((HR0_34.out.below hbc).lt)
  have HR1_36 := Lib.hid ((HR1_34.out.below hbc).lt)
  have HR2_36 := Lib.hid ((HR2_34.out.below hbc).lt)
  have K0_36 := Lib.hid (K0_34.out.after hbc)
  have K1_36 := Lib.hid (K1_34.out.after hbc)
  have K2_36 := Lib.hid (K2_34.out.after hbc)
  have Rp1_36 := Lib.hid ((Rp1_34.out.below hbc).lt)
  have Rp2_36 := Lib.hid ((Rp2_34.out.below hbc).lt)
  have Rp3_36 := Lib.hid ((Rp3_34.out.below hbc).lt)
  have Rp4_36 := Lib.hid ((Rp4_34.out.below hbc).lt)
  have Rp5_36 := Lib.hid ((Rp5_34.out.below hbc).lt)
  have Rp6_36 := Lib.hid ((Rp6_34.out.below hbc).lt)
  have Rq1_36 := Lib.hid ((Rq1_34.out.below hbc).lt)
  have Rq2_36 := Lib.hid ((Rq2_34.out.below hbc).lt)
  clear hbc HB34 HR0_34 HR1_34 HR2_34 K0_34 K1_34 K2_34 Rp1_34 Rp2_34 Rp3_34 Rp4_34 Rp5_34 Rp6_34 Rq1_34 Rq2_34 hb
  refine hK.out _ _ ⟨HB36.out, K0_36.out, K1_36.out, K2_36.out⟩ ?_
  clear hK K
  try simp only [Act.put, List.setIfInBounds_toArray, List.set_cons_zero, List.set_cons_succ]
  repeat (first
    | (refine wpTr_fskip (by simp only [List.getElem?_toArray, List.getElem?_cons_zero, List.getElem?_cons_succ]; rfl) (by rfl) ?_
       simp only [Act.put, List.setIfInBounds_toArray, List.set_cons_zero, List.set_cons_succ])
    | (refine wpTr_float (v := ?_) (by simp only [List.getElem?_toArray, List.getElem?_cons_zero, List.getElem?_cons_succ]; rfl) (by rfl) (fun w' hS => ?_) ?_
       rotate_left
       (obtain ⟨hSb, hSb0, hSb1, hSb2⟩ := hS; have eSb0 := hSb0.cell 0; have lSb0 := hSb0.lt; simp at eSb0; have eSb1 := hSb1.cell 0; have lSb1 := hSb1.lt; simp at eSb1; have eSb2 := hSb2.cell 0; have lSb2 := hSb2.lt; simp at eSb2; go_simp; first | done | rfl)
       simp only [Act.put, List.setIfInBounds_toArray, List.set_cons_zero, List.set_cons_succ]))
  refine wpTr_one ?_
  refine stepTr_K (by simp only [List.getElem?_toArray, List.getElem?_cons_zero, List.getElem?_cons_succ]; rfl) (by rfl) (fun K hK => ?_)
  go_simp
  refine (subset_any A1 A2 c1 c2 l1 l2 _ HR1_36.out HR2_36.out (by omega) (by omega) true ⟨fun _ => HV2.out, fun _ => rfl⟩).mono ?_
  rintro e w37 ⟨rfl, hb⟩
  have hbc := hb
  have HB38 := Lib.hid (below_then HB36.out hbc (Nat.le_refl _))
  have HR0_38 := Lib.hid ((HR0_36.out.below hbc).lt)
  have HR1_38 := Lib.hid ((HR1_36.out.below hbc).lt)
  have HR2_38 := Lib.hid ((HR2_36.out.below hbc).lt)
  have K0_38 := Lib.hid (K0_36.out.after hbc)
  have K1_38 := Lib.hid (K1_36.out.after hbc)
  have K2_38 := Lib.hid (K2_36.out.after hbc)
  have Rp1_38 := Lib.hid ((Rp1_36.out.below hbc).lt)
  have Rp2_38 := Lib.hid ((Rp2_36.out.below hbc).lt)
  have Rp3_38 := Lib.hid ((Rp3_36.out.below hbc).lt)
  have Rp4_38 := Lib.hid ((Rp4_36.out.below hbc).lt)
  have Rp5_38 := Lib.hid ((Rp5_36.out.below hbc).lt)
  have Rp6_38 := Lib.hid ((Rp6_36.out.below hbc).lt)
  have Rq1_38 := Lib.hid ((Rq1_36.out.below hbc).lt)
  have Rq2_38 := Lib.hid ((Rq2_36.out.below hbc).lt)
  clear hbc HB36 HR0_36 HR1_36 HR2_36 K0_36 K1_36 K2_36 Rp1_36 Rp2_36 Rp3_36 Rp4_36 Rp5_36 Rp6_36 Rq1_36 Rq2_36 hb
  refine hK.out _ _ ⟨HB38.out, K0_38.out, K1_38.out, K2_38.out⟩ ?_
  clear hK K
  try simp only [Act.put, List.setIfInBounds_toArray, List.set_cons_zero, List.set_cons_succ]
  repeat (first
    | (refine wpTr_fskip (by simp only [List.getElem?_toArray, List.getElem?_cons_zero, List.getElem?_cons_succ]; rfl) (by rfl) ?_
       simp only [Act.put, List.setIfInBounds_toArray, List.set_cons_zero, List.set_cons_succ])
    | (refine wpTr_float (v := ?_) (by simp only [List.getElem?_toArray, List.getElem?_cons_zero, List.getElem?_cons_succ]; rfl) (by rfl) (fun w' hS => ?_) ?_
       rotate_left
       (obtain ⟨hSb, hSb0, hSb1, hSb2⟩ := hS; have eSb0 := hSb0.cell 0; have lSb0 := hSb0.lt; simp at eSb0; have eSb1 := hSb1.cell 0; have lSb1 := hSb1.lt; simp at eSb1; have eSb2 := hSb2.cell 0; have lSb2 := hSb2.lt; simp at eSb2; go_simp; first | done | rfl)
       simp only [Act.put, List.setIfInBounds_toArray, List.set_cons_zero, List.set_cons_succ]))
  refine wpTr_one ?_
  refine stepTr_K (by simp only [List.getElem?_toArray, List.getElem?_cons_zero, List.getElem?_cons_succ]; rfl) (by rfl) (fun K hK => ?_)
  go_simp
  refine (subset_any A0 A2 c0 c2 l0 l2 _ HR0_38.out HR2_38.out (by omega) (by omega) true ⟨fun _ x hx => HV2.out x (HSUB.out x hx), fun _ => rfl⟩).mono ?_
  rintro e w39 ⟨rfl, hb⟩
  have hbc := hb
  have HB40 := Lib.hid (below_then HB38.out hbc (Nat.le_refl _))
  have HR0_40 := Lib.hid ((HR0_38.out.below hbc).lt)
  have HR1_40 := Lib.hid ((HR1_38.out.below hbc).lt)
  have HR2_40 := Lib.hid ((HR2_38.out.below hbc).lt)
  have K0_40 := Lib.hid (K0_38.out.after hbc)
  have K1_40 := Lib.hid (K1_38.out.after hbc)
  have K2_40 := Lib.hid (K2_38.out.after hbc)
  have Rp1_40 := Lib.hid ((Rp1_38.out.below hbc).lt)
  have Rp2_40 := Lib.hid ((Rp2_38.out.below hbc).lt)
  have Rp3_40 := Lib.hid ((Rp3_38.out.below hbc).lt)
  have Rp4_40 := Lib.hid ((Rp4_38.out.below hbc).lt)
  have Rp5_40 := Lib.hid ((Rp5_38.out.below hbc).lt)
  have Rp6_40 := Lib.hid ((Rp6_38.out.below hbc).lt)
  have Rq1_40 := Lib.hid ((Rq1_38.out.below hbc).lt)
  have Rq2_40 := Lib.hid ((Rq2_38.out.below hbc).lt)
  clear hbc HB38 HR0_38 HR1_38 HR2_38 K0_38 K1_38 K2_38 Rp1_38 Rp2_38 Rp3_38 Rp4_38 Rp5_38 Rp6_38 Rq1_38 Rq2_38 hb
  refine hK.out _ _ ⟨HB40.out, K0_40.out, K1_40.out, K2_40.out⟩ ?_
  clear hK K
  try simp only [Act.put, List.setIfInBounds_toArray, List.set_cons_zero, List.set_cons_succ]
  repeat (first
    | (refine wpTr_fskip (by simp only [List.getElem?_toArray, List.getElem?_cons_zero, List.getElem?_cons_succ]; rfl) (by rfl) ?_
       simp only [Act.put, List.setIfInBounds_toArray, List.set_cons_zero, List.set_cons_succ])
    | (refine wpTr_float (v := ?_) (by simp only [List.getElem?_toArray, List.getElem?_cons_zero, List.getElem?_cons_succ]; rfl) (by rfl) (fun w' hS => ?_) ?_
       rotate_left
       (obtain ⟨hSb, hSb0, hSb1, hSb2⟩ := hS; have eSb0 := hSb0.cell 0; have lSb0 := hSb0.lt; simp at eSb0; have eSb1 := hSb1.cell 0; have lSb1 := hSb1.lt; simp at eSb1; have eSb2 := hSb2.cell 0; have lSb2 := hSb2.lt; simp at eSb2; go_simp; first | done | rfl)
       simp only [Act.put, List.setIfInBounds_toArray, List.set_cons_zero, List.set_cons_succ]))
  refine wpTr_one ?_
  refine stepTr_K (by simp only [List.getElem?_toArray, List.getElem?_cons_zero, List.getElem?_cons_succ]; rfl) (by rfl) (fun K hK => ?_)
  go_simp
  refine (count_any A0 c0 l0 _ HR0_40.out (by omega) Na HCA.out).mono ?_
  rintro e w41 ⟨rfl, hb⟩
  have hbc := hb
  have HB42 := Lib.hid (below_then HB40.out hbc (Nat.le_refl _))
  have HR0_42 := Lib.hid ((HR0_40.out.below hbc).lt)
  have HR1_42 := Lib.hid ((HR1_40.out.below hbc).lt)
  have HR2_42 := Lib.hid ((HR2_40.out.below hbc).lt)
  have K0_42 := Lib.hid (K0_40.out.after hbc)
  have K1_42 := Lib.hid (K1_40.out.after hbc)
  have K2_42 := Lib.hid (K2_40.out.after hbc)
  have Rp1_42 := Lib.hid ((Rp1_40.out.below hbc).lt)
  have Rp2_42 := Lib.hid ((Rp2_40.out.below hbc).lt)
  have Rp3_42 := Lib.hid ((Rp3_40.out.below hbc).lt)
  have Rp4_42 := Lib.hid ((Rp4_40.out.below hbc).lt)
  have Rp5_42 := Lib.hid ((Rp5_40.out.below hbc).lt)
  have Rp6_42 := Lib.hid ((Rp6_40.out.below hbc).lt)
  have Rq1_42 := Lib.hid ((Rq1_40.out.below hbc).lt)
  have Rq2_42 := Lib.hid ((Rq2_40.out.below hbc).lt)
  clear hbc HB40 HR0_40 HR1_40 HR2_40 K0_40 K1_40 K2_40 Rp1_40 Rp2_40 Rp3_40 Rp4_40 Rp5_40 Rp6_40 Rq1_40 Rq2_40 hb
  refine hK.out _ _ ⟨HB42.out, K0_42.out, K1_42.out, K2_42.out⟩ ?_
  clear hK K
  try simp only [Act.put, List.setIfInBounds_toArray, List.set_cons_zero, List.set_cons_succ]
  refine wpTr_one ?_
  refine stepTr_K (by simp only [List.getElem?_toArray, List.getElem?_cons_zero, List.getElem?_cons_succ]; rfl) (by rfl) (fun K hK => ?_)
  go_simp
  refine (count_any A1 c1 l1 _ HR1_42.out (by omega) Nb HCB.out).mono ?_
  rintro e w43 ⟨rfl, hb⟩
  have hbc := hb
  have HB44 := Lib.hid (below_then HB42.out hbc (Nat.le_refl _))
  have HR0_44 := Lib.hid ((HR0_42.out.below hbc).lt)
  have HR1_44 := Lib.hid ((HR1_42.out.below hbc).lt)
  have HR2_44 := Lib.hid ((HR2_42.out.below hbc).lt)
  have K0_44 := Lib.hid (K0_42.out.after hbc)
  have K1_44 := Lib.hid (K1_42.out.after hbc)
  have K2_44 := Lib.hid (K2_42.out.after hbc)
  have Rp1_44 := Lib.hid ((Rp1_42.out.below hbc).lt)
  have Rp2_44 := Lib.hid ((Rp2_42.out.below hbc).lt)
  have Rp3_44 := Lib.hid ((Rp3_42.out.below hbc).lt)
  have Rp4_44 := Lib.hid ((Rp4_42.out.below hbc).lt)
  have Rp5_44 := Lib.hid ((Rp5_42.out.below hbc).lt)
  have Rp6_44 := Lib.hid ((Rp6_42.out.below hbc).lt)
  have Rq1_44 := Lib.hid ((Rq1_42.out.below hbc).lt)
  have Rq2_44 := Lib.hid ((Rq2_42.out.below hbc).lt)
  clear hbc HB42 HR0_42 HR1_42 HR2_42 K0_42 K1_42 K2_42 Rp1_42 Rp2_42 Rp3_42 Rp4_42 Rp5_42 Rp6_42 Rq1_42 Rq2_42 hb
  refine hK.out _ _ ⟨HB44.out, K0_44.out, K1_44.out, K2_44.out⟩ ?_
  clear hK K
  try simp only [Act.put, List.setIfInBounds_toArray, List.set_cons_zero, List.set_cons_succ]
  repeat (first
    | (refine wpTr_fskip (by simp only [List.getElem?_toArray, List.getElem?_cons_zero, List.getElem?_cons_succ]; rfl) (by rfl) ?_
       simp only [Act.put, List.setIfInBounds_toArray, List.set_cons_zero, List.set_cons_succ])
    | (refine wpTr_float (v := ?_) (by simp only [List.getElem?_toArray, List.getElem?_cons_zero, List.getElem?_cons_succ]; rfl) (by rfl) (fun w' hS => ?_) ?_
       rotate_left
       (obtain ⟨hSb, hSb0, hSb1, hSb2⟩ := hS; have eSb0 := hSb0.cell 0; have lSb0 := hSb0.lt; simp at eSb0; have eSb1 := hSb1.cell 0; have lSb1 := hSb1.lt; simp at eSb1; have eSb2 := hSb2.cell 0; have lSb2 := hSb2.lt; simp at eSb2; go_simp; first | done | rfl)
       simp only [Act.put, List.setIfInBounds_toArray, List.set_cons_zero, List.set_cons_succ]))
  refine wpTr_done ?_
  go_wp2_with fail
  have k1 : IntKind.i64.wrap (Na + Nb) = Na + Nb := IntWalk.i64_in _ (by omega)
  refine wp_region_tree (fun w' => Below w.heap.size w w' ∧ Blk w' b0 24 #[.slice A0 l0.length c0] ∧ Blk w' b1 24 #[.slice A1 l1.length c1] ∧ Blk w' b2 24 #[.slice A2 l2.length c2]) (.float 0 (.float 1 (.float 3 (.one 2 (.one 4 (.float 5 (.float 6 (.float 7 (.float 8 (.one 9 (.one 10 (.float 11 (.float 12 (.float 13 (.float 15 (.float 18 (.float 19 (.float 22 (.float 23 (.one 14 (.one 16 (.float 17 (.one 20 (.one 21 (.one 24 (.one 25 (.float 26 (.float 27 (.float 28 (.float 29 (.one 30 (.float 31 (.float 32 .done))))))))))))))))))))))))))))))))) (by kernel_rfl) (by kernel_rfl) (fun _ _ d _ _ h => by cases d <;> exact h) ⟨HB44.out.drew, K0_44.out.drew, K1_44.out.drew, K2_44.out.drew⟩ ?_
  obtain ⟨d45, hdr, hbd⟩ : ∃ d, d = w43.drew ∧ Below w43.heap.size w43 d := ⟨_, rfl, (Below.refl _ _).drew⟩
  rw [← hdr]
  clear hdr
  have hbc := hbd
  have HB46 := Lib.hid (below_then HB44.out hbc (Nat.le_refl _))
  have HR0_46 := Lib.hid ((HR0_44.out.below hbc).lt)
  have HR1_46 := Lib.hid ((HR1_44.out.below hbc).lt)
  have HR2_46 := Lib.hid ((HR2_44.out.below hbc).lt)
  have K0_46 := Lib.hid (K0_44.out.after hbc)
  have K1_46 := Lib.hid (K1_44.out.after hbc)
  have K2_46 := Lib.hid (K2_44.out.after hbc)
  have Rp1_46 := Lib.hid ((Rp1_44.out.below hbc).lt)
  have Rp2_46 := Lib.hid ((Rp2_44.out.below hbc).lt)
  have Rp3_46 := Lib.hid ((Rp3_44.out.below hbc).lt)
  have Rp4_46 := Lib.hid ((Rp4_44.out.below hbc).lt)
  have Rp5_46 := Lib.hid ((Rp5_44.out.below hbc).lt)
  have Rp6_46 := Lib.hid ((Rp6_44.out.below hbc).lt)
  have Rq1_46 := Lib.hid ((Rq1_44.out.below hbc).lt)
  have Rq2_46 := Lib.hid ((Rq2_44.out.below hbc).lt)
  clear hbc HB44 HR0_44 HR1_44 HR2_44 K0_44 K1_44 K2_44 Rp1_44 Rp2_44 Rp3_44 Rp4_44 Rp5_44 Rp6_44 Rq1_44 Rq2_44 hbd
  repeat (first
    | (refine wpTr_fskip (by simp only [List.getElem?_toArray, List.getElem?_cons_zero, List.getElem?_cons_succ]; rfl) (by rfl) ?_
       simp only [Act.put, List.setIfInBounds_toArray, List.set_cons_zero, List.set_cons_succ])
    | (refine wpTr_float (v := ?_) (by simp only [List.getElem?_toArray, List.getElem?_cons_zero, List.getElem?_cons_succ]; rfl) (by rfl) (fun w' hS => ?_) ?_
       rotate_left
       (obtain ⟨hSb, hSb0, hSb1, hSb2⟩ := hS; have eSb0 := hSb0.cell 0; have lSb0 := hSb0.lt; simp at eSb0; have eSb1 := hSb1.cell 0; have lSb1 := hSb1.lt; simp at eSb1; have eSb2 := hSb2.cell 0; have lSb2 := hSb2.lt; simp at eSb2; go_simp; first | done | rfl)
       simp only [Act.put, List.setIfInBounds_toArray, List.set_cons_zero, List.set_cons_succ]))
  refine wpTr_one ?_
  refine stepTr_K (by simp only [List.getElem?_toArray, List.getElem?_cons_zero, List.getElem?_cons_succ]; rfl) (by rfl) (fun K hK => ?_)
  go_simp
  refine (and_any A0 A1 c0 c1 l0 l1 _ HR0_46.out HR1_46.out (by omega) (by omega)).mono ?_
  rintro e w47 ⟨At1, ct1, rt1, rfl, hc, hh, hr, hb⟩
  have hbc := hb
  have HB48 := Lib.hid (below_then HB46.out hbc (Nat.le_refl _))
  have HR0_48 := Lib.hid ((HR0_46.out.below hbc).lt)
  have HR1_48 := Lib.hid ((HR1_46.out.below hbc).lt)
  have HR2_48 := Lib.hid ((HR2_46.out.below hbc).lt)
  have K0_48 := Lib.hid (K0_46.out.after hbc)
  have K1_48 := Lib.hid (K1_46.out.after hbc)
  have K2_48 := Lib.hid (K2_46.out.after hbc)
  have Rp1_48 := Lib.hid ((Rp1_46.out.below hbc).lt)
  have Rp2_48 := Lib.hid ((Rp2_46.out.below hbc).lt)
  have Rp3_48 := Lib.hid ((Rp3_46.out.below hbc).lt)
  have Rp4_48 := Lib.hid ((Rp4_46.out.below hbc).lt)
  have Rp5_48 := Lib.hid ((Rp5_46.out.below hbc).lt)
  have Rp6_48 := Lib.hid ((Rp6_46.out.below hbc).lt)
  have Rq1_48 := Lib.hid ((Rq1_46.out.below hbc).lt)
  have Rq2_48 := Lib.hid ((Rq2_46.out.below hbc).lt)
  have Rt1_48 := Lib.hid (hr)
  clear hbc HB46 HR0_46 HR1_46 HR2_46 K0_46 K1_46 K2_46 Rp1_46 Rp2_46 Rp3_46 Rp4_46 Rp5_46 Rp6_46 Rq1_46 Rq2_46 hb hr
  have Ct1 := Lib.hid hc
  have Mt1 := Lib.hid hh
  clear hc hh
  refine hK.out _ _ ⟨HB48.out, K0_48.out, K1_48.out, K2_48.out⟩ ?_
  clear hK K
  try simp only [Act.put, List.setIfInBounds_toArray, List.set_cons_zero, List.set_cons_succ]
  refine wpTr_one ?_
  refine stepTr_K (by simp only [List.getElem?_toArray, List.getElem?_cons_zero, List.getElem?_cons_succ]; rfl) (by rfl) (fun K hK => ?_)
  go_simp
  refine (subset_any At1 A0 ct1 c0 rt1 l0 _ Rt1_48.out HR0_48.out (by have := can_len Ct1.out; omega) (by omega) true ⟨fun _ x hx => ((Mt1.out x).1 hx).1, fun _ => rfl⟩).mono ?_
  rintro e w49 ⟨rfl, hb⟩
  have hbc := hb
  have HB50 := Lib.hid (below_then HB48.out hbc (Nat.le_refl _))
  have HR0_50 := Lib.hid ((HR0_48.out.below hbc).lt)
  have HR1_50 := Lib.hid ((HR1_48.out.below hbc).lt)
  have HR2_50 := Lib.hid ((HR2_48.out.below hbc).lt)
  have K0_50 := Lib.hid (K0_48.out.after hbc)
  have K1_50 := Lib.hid (K1_48.out.after hbc)
  have K2_50 := Lib.hid (K2_48.out.after hbc)
  have Rp1_50 := Lib.hid ((Rp1_48.out.below hbc).lt)
  have Rp2_50 := Lib.hid ((Rp2_48.out.below hbc).lt)
  have Rp3_50 := Lib.hid ((Rp3_48.out.below hbc).lt)
  have Rp4_50 := Lib.hid ((Rp4_48.out.below hbc).lt)
  have Rp5_50 := Lib.hid ((Rp5_48.out.below hbc).lt)
  have Rp6_50 := Lib.hid ((Rp6_48.out.below hbc).lt)
  have Rq1_50 := Lib.hid ((Rq1_48.out.below hbc).lt)
  have Rq2_50 := Lib.hid ((Rq2_48.out.below hbc).lt)
  have Rt1_50 := Lib.hid ((Rt1_48.out.below hbc).lt)
  clear hbc HB48 HR0_48 HR1_48 HR2_48 K0_48 K1_48 K2_48 Rp1_48 Rp2_48 Rp3_48 Rp4_48 Rp5_48 Rp6_48 Rq1_48 Rq2_48 Rt1_48 hb
  refine hK.out _ _ ⟨HB50.out, K0_50.out, K1_50.out, K2_50.out⟩ ?_
  clear hK K
  try simp only [Act.put, List.setIfInBounds_toArray, List.set_cons_zero, List.set_cons_succ]
  repeat (first
    | (refine wpTr_fskip (by simp only [List.getElem?_toArray, List.getElem?_cons_zero, List.getElem?_cons_succ]; rfl) (by rfl) ?_
       simp only [Act.put, List.setIfInBounds_toArray, List.set_cons_zero, List.set_cons_succ])
    | (refine wpTr_float (v := ?_) (by simp only [List.getElem?_toArray, List.getElem?_cons_zero, List.getElem?_cons_succ]; rfl) (by rfl) (fun w' hS => ?_) ?_
       rotate_left
       (obtain ⟨hSb, hSb0, hSb1, hSb2⟩ := hS; have eSb0 := hSb0.cell 0; have lSb0 := hSb0.lt; simp at eSb0; have eSb1 := hSb1.cell 0; have lSb1 := hSb1.lt; simp at eSb1; have eSb2 := hSb2.cell 0; have lSb2 := hSb2.lt; simp at eSb2; go_simp; first | done | rfl)
       simp only [Act.put, List.setIfInBounds_toArray, List.set_cons_zero, List.set_cons_succ]))
  refine wpTr_one ?_
  refine stepTr_K (by simp only [List.getElem?_toArray, List.getElem?_cons_zero, List.getElem?_cons_succ]; rfl) (by rfl) (fun K hK => ?_)
  go_simp
  refine (or_any A0 A1 c0 c1 l0 l1 _ HR0_50.out HR1_50.out (by omega) (by omega)).mono ?_
  rintro e w51 ⟨At2, ct2, rt2, rfl, hc, hh, hr, hb⟩
  have hbc := hb
  have HB52 := Lib.hid (below_then HB50.out hbc (Nat.le_refl _))
  have HR0_52 := Lib.hid ((HR0_50.out.below hbc).lt)
  have HR1_52 := Lib.hid ((HR1_50.out.below hbc).lt)
  have HR2_52 := Lib.hid ((HR2_50.out.below hbc).lt)
  have K0_52 := Lib.hid (K0_50.out.after hbc)
  have K1_52 := Lib.hid (K1_50.out.after hbc)
  have K2_52 := Lib.hid (K2_50.out.after hbc)
  have Rp1_52 := Lib.hid ((Rp1_50.out.below hbc).lt)
  have Rp2_52 := Lib.hid ((Rp2_50.out.below hbc).lt)
  have Rp3_52 := Lib.hid ((Rp3_50.out.below hbc).lt)
  have Rp4_52 := Lib.hid ((Rp4_50.out.below hbc).lt)
  have Rp5_52 := Lib.hid ((Rp5_50.out.below hbc).lt)
  have Rp6_52 := Lib.hid ((Rp6_50.out.below hbc).lt)
  have Rq1_52 := Lib.hid ((Rq1_50.out.below hbc).lt)
  have Rq2_52 := Lib.hid ((Rq2_50.out.below hbc).lt)
  have Rt1_52 := Lib.hid ((Rt1_50.out.below hbc).lt)
  have Rt2_52 := Lib.hid (hr)
  clear hbc HB50 HR0_50 HR1_50 HR2_50 K0_50 K1_50 K2_50 Rp1_50 Rp2_50 Rp3_50 Rp4_50 Rp5_50 Rp6_50 Rq1_50 Rq2_50 Rt1_50 hb hr
  have Ct2 := Lib.hid hc
  have Mt2 := Lib.hid hh
  clear hc hh
  refine hK.out _ _ ⟨HB52.out, K0_52.out, K1_52.out, K2_52.out⟩ ?_
  clear hK K
  try simp only [Act.put, List.setIfInBounds_toArray, List.set_cons_zero, List.set_cons_succ]
  refine wpTr_one ?_
  refine stepTr_K (by simp only [List.getElem?_toArray, List.getElem?_cons_zero, List.getElem?_cons_succ]; rfl) (by rfl) (fun K hK => ?_)
  go_simp
  refine (subset_any A0 At2 c0 ct2 l0 rt2 _ HR0_52.out Rt2_52.out (by omega) (by have := can_len Ct2.out; omega) true ⟨fun _ x hx => (Mt2.out x).2 (.inl hx), fun _ => rfl⟩).mono ?_
  rintro e w53 ⟨rfl, hb⟩
  have hbc := hb
  have HB54 := Lib.hid (below_then HB52.out hbc (Nat.le_refl _))
  have HR0_54 := Lib.hid ((HR0_52.out.below hbc).lt)
  have HR1_54 := Lib.hid ((HR1_52.out.below hbc).lt)
  have HR2_54 := Lib.hid ((HR2_52.out.below hbc).lt)
  have K0_54 := Lib.hid (K0_52.out.after hbc)
  have K1_54 := Lib.hid (K1_52.out.after hbc)
  have K2_54 := Lib.hid (K2_52.out.after hbc)
  have Rp1_54 := Lib.hid ((Rp1_52.out.below hbc).lt)
  have Rp2_54 := Lib.hid ((Rp2_52.out.below hbc).lt)
  have Rp3_54 := Lib.hid ((Rp3_52.out.below hbc).lt)
  have Rp4_54 := Lib.hid ((Rp4_52.out.below hbc).lt)
  have Rp5_54 := Lib.hid ((Rp5_52.out.below hbc).lt)
  have Rp6_54 := Lib.hid ((Rp6_52.out.below hbc).lt)
  have Rq1_54 := Lib.hid ((Rq1_52.out.below hbc).lt)
  have Rq2_54 := Lib.hid ((Rq2_52.out.below hbc).lt)
  have Rt1_54 := Lib.hid ((Rt1_52.out.below hbc).lt)
  have Rt2_54 := Lib.hid ((Rt2_52.out.below hbc).lt)
  clear hbc HB52 HR0_52 HR1_52 HR2_52 K0_52 K1_52 K2_52 Rp1_52 Rp2_52 Rp3_52 Rp4_52 Rp5_52 Rp6_52 Rq1_52 Rq2_52 Rt1_52 Rt2_52 hb
  refine hK.out _ _ ⟨HB54.out, K0_54.out, K1_54.out, K2_54.out⟩ ?_
  clear hK K
  try simp only [Act.put, List.setIfInBounds_toArray, List.set_cons_zero, List.set_cons_succ]
  repeat (first
    | (refine wpTr_fskip (by simp only [List.getElem?_toArray, List.getElem?_cons_zero, List.getElem?_cons_succ]; rfl) (by rfl) ?_
       simp only [Act.put, List.setIfInBounds_toArray, List.set_cons_zero, List.set_cons_succ])
    | (refine wpTr_float (v := ?_) (by simp only [List.getElem?_toArray, List.getElem?_cons_zero, List.getElem?_cons_succ]; rfl) (by rfl) (fun w' hS => ?_) ?_
       rotate_left
       (obtain ⟨hSb, hSb0, hSb1, hSb2⟩ := hS; have eSb0 := hSb0.cell 0; have lSb0 := hSb0.lt; simp at eSb0; have eSb1 := hSb1.cell 0; have lSb1 := hSb1.lt; simp at eSb1; have eSb2 := hSb2.cell 0; have lSb2 := hSb2.lt; simp at eSb2; go_simp; first | done | rfl)
       simp only [Act.put, List.setIfInBounds_toArray, List.set_cons_zero, List.set_cons_succ]))
  refine wpTr_one ?_
  refine stepTr_K (by simp only [List.getElem?_toArray, List.getElem?_cons_zero, List.getElem?_cons_succ]; rfl) (by rfl) (fun K hK => ?_)
  go_simp
  refine (count_any A0 c0 l0 _ HR0_54.out (by omega) Na HCA.out).mono ?_
  rintro e w55 ⟨rfl, hb⟩
  have hbc := hb
  have HB56 := Lib.hid (below_then HB54.out hbc (Nat.le_refl _))
  have HR0_56 := Lib.hid ((HR0_54.out.below hbc).lt)
  have HR1_56 := Lib.hid ((HR1_54.out.below hbc).lt)
  have HR2_56 := Lib.hid ((HR2_54.out.below hbc).lt)
  have K0_56 := Lib.hid (K0_54.out.after hbc)
  have K1_56 := Lib.hid (K1_54.out.after hbc)
  have K2_56 := Lib.hid (K2_54.out.after hbc)
  have Rp1_56 := Lib.hid ((Rp1_54.out.below hbc).lt)
  have Rp2_56 := Lib.hid ((Rp2_54.out.below hbc).lt)
  have Rp3_56 := Lib.hid ((Rp3_54.out.below hbc).lt)
  have Rp4_56 := Lib.hid ((Rp4_54.out.below hbc).lt)
  have Rp5_56 := Lib.hid ((Rp5_54.out.below hbc).lt)
  have Rp6_56 := Lib.hid ((Rp6_54.out.below hbc).lt)
  have Rq1_56 := Lib.hid ((Rq1_54.out.below hbc).lt)
  have Rq2_56 := Lib.hid ((Rq2_54.out.below hbc).lt)
  have Rt1_56 := Lib.hid ((Rt1_54.out.below hbc).lt)
  have Rt2_56 := Lib.hid ((Rt2_54.out.below hbc).lt)
  clear hbc HB54 HR0_54 HR1_54 HR2_54 K0_54 K1_54 K2_54 Rp1_54 Rp2_54 Rp3_54 Rp4_54 Rp5_54 Rp6_54 Rq1_54 Rq2_54 Rt1_54 Rt2_54 hb
  refine hK.out _ _ ⟨HB56.out, K0_56.out, K1_56.out, K2_56.out⟩ ?_
  clear hK K
  try simp only [Act.put, List.setIfInBounds_toArray, List.set_cons_zero, List.set_cons_succ]
  refine wpTr_one ?_
  refine stepTr_K (by simp only [List.getElem?_toArray, List.getElem?_cons_zero, List.getElem?_cons_succ]; rfl) (by rfl) (fun K hK => ?_)
  go_simp
  refine (count_any A1 c1 l1 _ HR1_56.out (by omega) Nb HCB.out).mono ?_
  rintro e w57 ⟨rfl, hb⟩
  have hbc := hb
  have HB58 := Lib.hid (below_then HB56.out hbc (Nat.le_refl _))
  have HR0_58 := Lib.hid ((HR0_56.out.below hbc).lt)
  have HR1_58 := Lib.hid ((HR1_56.out.below hbc).lt)
  have HR2_58 := Lib.hid ((HR2_56.out.below hbc).lt)
  have K0_58 := Lib.hid (K0_56.out.after hbc)
  have K1_58 := Lib.hid (K1_56.out.after hbc)
  have K2_58 := Lib.hid (K2_56.out.after hbc)
  have Rp1_58 := Lib.hid ((Rp1_56.out.below hbc).lt)
  have Rp2_58 := Lib.hid ((Rp2_56.out.below hbc).lt)
  have Rp3_58 := Lib.hid ((Rp3_56.out.below hbc).lt)
  have Rp4_58 := Lib.hid ((Rp4_56.out.below hbc).lt)
  have Rp5_58 := Lib.hid ((Rp5_56.out.below hbc).lt)
  have Rp6_58 := Lib.hid ((Rp6_56.out.below hbc).lt)
  have Rq1_58 := Lib.hid ((Rq1_56.out.below hbc).lt)
  have Rq2_58 := Lib.hid ((Rq2_56.out.below hbc).lt)
  have Rt1_58 := Lib.hid ((Rt1_56.out.below hbc).lt)
  have Rt2_58 := Lib.hid ((Rt2_56.out.below hbc).lt)
  clear hbc HB56 HR0_56 HR1_56 HR2_56 K0_56 K1_56 K2_56 Rp1_56 Rp2_56 Rp3_56 Rp4_56 Rp5_56 Rp6_56 Rq1_56 Rq2_56 Rt1_56 Rt2_56 hb
  refine hK.out _ _ ⟨HB58.out, K0_58.out, K1_58.out, K2_58.out⟩ ?_
  clear hK K
  try simp only [Act.put, List.setIfInBounds_toArray, List.set_cons_zero, List.set_cons_succ]
  repeat (first
    | (refine wpTr_fskip (by simp only [List.getElem?_toArray, List.getElem?_cons_zero, List.getElem?_cons_succ]; rfl) (by rfl) ?_
       simp only [Act.put, List.setIfInBounds_toArray, List.set_cons_zero, List.set_cons_succ])
    | (refine wpTr_float (v := ?_) (by simp only [List.getElem?_toArray, List.getElem?_cons_zero, List.getElem?_cons_succ]; rfl) (by rfl) (fun w' hS => ?_) ?_
       rotate_left
       (obtain ⟨hSb, hSb0, hSb1, hSb2⟩ := hS; have eSb0 := hSb0.cell 0; have lSb0 := hSb0.lt; simp at eSb0; have eSb1 := hSb1.cell 0; have lSb1 := hSb1.lt; simp at eSb1; have eSb2 := hSb2.cell 0; have lSb2 := hSb2.lt; simp at eSb2; go_simp; first | done | rfl)
       simp only [Act.put, List.setIfInBounds_toArray, List.set_cons_zero, List.set_cons_succ]))
  refine wpTr_one ?_
  refine stepTr_K (by simp only [List.getElem?_toArray, List.getElem?_cons_zero, List.getElem?_cons_succ]; rfl) (by rfl) (fun K hK => ?_)
  go_simp
  refine (or_any A0 A1 c0 c1 l0 l1 _ HR0_58.out HR1_58.out (by omega) (by omega)).mono ?_
  rintro e w59 ⟨At3, ct3, rt3, rfl, hc, hh, hr, hb⟩
  have hbc := hb
  have HB60 := Lib.hid (below_then HB58.out hbc (Nat.le_refl _))
  have HR0_60 := Lib.hid ((HR0_58.out.below hbc).lt)
  have HR1_60 := Lib.hid ((HR1_58.out.below hbc).lt)
  have HR2_60 := Lib.hid ((HR2_58.out.below hbc).lt)
  have K0_60 := Lib.hid (K0_58.out.after hbc)
  have K1_60 := Lib.hid (K1_58.out.after hbc)
  have K2_60 := Lib.hid (K2_58.out.after hbc)
  have Rp1_60 := Lib.hid ((Rp1_58.out.below hbc).lt)
  have Rp2_60 := Lib.hid ((Rp2_58.out.below hbc).lt)
  have Rp3_60 := Lib.hid ((Rp3_58.out.below hbc).lt)
  have Rp4_60 := Lib.hid ((Rp4_58.out.below hbc).lt)
  have Rp5_60 := Lib.hid ((Rp5_58.out.below hbc).lt)
  have Rp6_60 := Lib.hid ((Rp6_58.out.below hbc).lt)
  have Rq1_60 := Lib.hid ((Rq1_58.out.below hbc).lt)
  have Rq2_60 := Lib.hid ((Rq2_58.out.below hbc).lt)
  have Rt1_60 := Lib.hid ((Rt1_58.out.below hbc).lt)
  have Rt2_60 := Lib.hid ((Rt2_58.out.below hbc).lt)
  have Rt3_60 := Lib.hid (hr)
  clear hbc HB58 HR0_58 HR1_58 HR2_58 K0_58 K1_58 K2_58 Rp1_58 Rp2_58 Rp3_58 Rp4_58 Rp5_58 Rp6_58 Rq1_58 Rq2_58 Rt1_58 Rt2_58 hb hr
  have Ct3 := Lib.hid hc
  have Mt3 := Lib.hid hh
  clear hc hh
  obtain ⟨No, hNo⟩ : ∃ N, cardS rt3 = N := ⟨_, rfl⟩
  have hb3 := cardS_bd rt3
  rw [hNo] at hb3
  have HNO := Lib.hid hNo
  obtain ⟨c1', c2'⟩ := hb3
  clear hNo
  refine hK.out _ _ ⟨HB60.out, K0_60.out, K1_60.out, K2_60.out⟩ ?_
  clear hK K
  try simp only [Act.put, List.setIfInBounds_toArray, List.set_cons_zero, List.set_cons_succ]
  refine wpTr_one ?_
  refine stepTr_K (by simp only [List.getElem?_toArray, List.getElem?_cons_zero, List.getElem?_cons_succ]; rfl) (by rfl) (fun K hK => ?_)
  go_simp
  refine (count_any At3 ct3 rt3 _ Rt3_60.out (by have := can_len Ct3.out; omega) No (fun r h1 h2 => (count_card h1 h2).trans HNO.out)).mono ?_
  rintro e w61 ⟨rfl, hb⟩
  have hbc := hb
  have HB62 := Lib.hid (below_then HB60.out hbc (Nat.le_refl _))
  have HR0_62 := Lib.hid ((HR0_60.out.below hbc).lt)
  have HR1_62 := Lib.hid ((HR1_60.out.below hbc).lt)
  have HR2_62 := Lib.hid ((HR2_60.out.below hbc).lt)
  have K0_62 := Lib.hid (K0_60.out.after hbc)
  have K1_62 := Lib.hid (K1_60.out.after hbc)
  have K2_62 := Lib.hid (K2_60.out.after hbc)
  have Rp1_62 := Lib.hid ((Rp1_60.out.below hbc).lt)
  have Rp2_62 := Lib.hid ((Rp2_60.out.below hbc).lt)
  have Rp3_62 := Lib.hid ((Rp3_60.out.below hbc).lt)
  have Rp4_62 := Lib.hid ((Rp4_60.out.below hbc).lt)
  have Rp5_62 := Lib.hid ((Rp5_60.out.below hbc).lt)
  have Rp6_62 := Lib.hid ((Rp6_60.out.below hbc).lt)
  have Rq1_62 := Lib.hid ((Rq1_60.out.below hbc).lt)
  have Rq2_62 := Lib.hid ((Rq2_60.out.below hbc).lt)
  have Rt1_62 := Lib.hid ((Rt1_60.out.below hbc).lt)
  have Rt2_62 := Lib.hid ((Rt2_60.out.below hbc).lt)
  have Rt3_62 := Lib.hid ((Rt3_60.out.below hbc).lt)
  clear hbc HB60 HR0_60 HR1_60 HR2_60 K0_60 K1_60 K2_60 Rp1_60 Rp2_60 Rp3_60 Rp4_60 Rp5_60 Rp6_60 Rq1_60 Rq2_60 Rt1_60 Rt2_60 Rt3_60 hb
  refine hK.out _ _ ⟨HB62.out, K0_62.out, K1_62.out, K2_62.out⟩ ?_
  clear hK K
  try simp only [Act.put, List.setIfInBounds_toArray, List.set_cons_zero, List.set_cons_succ]
  refine wpTr_one ?_
  refine stepTr_K (by simp only [List.getElem?_toArray, List.getElem?_cons_zero, List.getElem?_cons_succ]; rfl) (by rfl) (fun K hK => ?_)
  go_simp
  refine (and_any A0 A1 c0 c1 l0 l1 _ HR0_62.out HR1_62.out (by omega) (by omega)).mono ?_
  rintro e w63 ⟨At4, ct4, rt4, rfl, hc, hh, hr, hb⟩
  have hbc := hb
  have HB64 := Lib.hid (below_then HB62.out hbc (Nat.le_refl _))
  have HR0_64 := Lib.hid ((HR0_62.out.below hbc).lt)
  have HR1_64 := Lib.hid ((HR1_62.out.below hbc).lt)
  have HR2_64 := Lib.hid ((HR2_62.out.below hbc).lt)
  have K0_64 := Lib.hid (K0_62.out.after hbc)
  have K1_64 := Lib.hid (K1_62.out.after hbc)
  have K2_64 := Lib.hid (K2_62.out.after hbc)
  have Rp1_64 := Lib.hid ((Rp1_62.out.below hbc).lt)
  have Rp2_64 := Lib.hid ((Rp2_62.out.below hbc).lt)
  have Rp3_64 := Lib.hid ((Rp3_62.out.below hbc).lt)
  have Rp4_64 := Lib.hid ((Rp4_62.out.below hbc).lt)
  have Rp5_64 := Lib.hid ((Rp5_62.out.below hbc).lt)
  have Rp6_64 := Lib.hid ((Rp6_62.out.below hbc).lt)
  have Rq1_64 := Lib.hid ((Rq1_62.out.below hbc).lt)
  have Rq2_64 := Lib.hid ((Rq2_62.out.below hbc).lt)
  have Rt1_64 := Lib.hid ((Rt1_62.out.below hbc).lt)
  have Rt2_64 := Lib.hid ((Rt2_62.out.below hbc).lt)
  have Rt3_64 := Lib.hid ((Rt3_62.out.below hbc).lt)
  have Rt4_64 := Lib.hid (hr)
  clear hbc HB62 HR0_62 HR1_62 HR2_62 K0_62 K1_62 K2_62 Rp1_62 Rp2_62 Rp3_62 Rp4_62 Rp5_62 Rp6_62 Rq1_62 Rq2_62 Rt1_62 Rt2_62 Rt3_62 hb hr
  have Ct4 := Lib.hid hc
  have Mt4 := Lib.hid hh
  clear hc hh
  obtain ⟨Nn, hNn⟩ : ∃ N, cardS rt4 = N := ⟨_, rfl⟩
  have hb4 := cardS_bd rt4
  rw [hNn] at hb4
  have HNN := Lib.hid hNn
  have hsum : (Na + Nb == No + Nn) = true := by
    have := cardS_oa Mt3.out Mt4.out
    rw [HNA.out, HNB.out, HNO.out, hNn] at this
    simp [this]
  obtain ⟨d1, d2⟩ := hb4
  have k2 : IntKind.i64.wrap (No + Nn) = No + Nn := IntWalk.i64_in _ (by omega)
  clear hNn
  refine hK.out _ _ ⟨HB64.out, K0_64.out, K1_64.out, K2_64.out⟩ ?_
  clear hK K
  try simp only [Act.put, List.setIfInBounds_toArray, List.set_cons_zero, List.set_cons_succ]
  refine wpTr_one ?_
  refine stepTr_K (by simp only [List.getElem?_toArray, List.getElem?_cons_zero, List.getElem?_cons_succ]; rfl) (by rfl) (fun K hK => ?_)
  go_simp
  refine (count_any At4 ct4 rt4 _ Rt4_64.out (by have := can_len Ct4.out; omega) Nn (fun r h1 h2 => (count_card h1 h2).trans HNN.out)).mono ?_
  rintro e w65 ⟨rfl, hb⟩
  have hbc := hb
  have HB66 := Lib.hid (below_then HB64.out hbc (Nat.le_refl _))
  have HR0_66 := Lib.hid ((HR0_64.out.below hbc).lt)
  have HR1_66 := Lib.hid ((HR1_64.out.below hbc).lt)
  have HR2_66 := Lib.hid ((HR2_64.out.below hbc).lt)
  have K0_66 := Lib.hid (K0_64.out.after hbc)
  have K1_66 := Lib.hid (K1_64.out.after hbc)
  have K2_66 := Lib.hid (K2_64.out.after hbc)
  have Rp1_66 := Lib.hid ((Rp1_64.out.below hbc).lt)
  have Rp2_66 := Lib.hid ((Rp2_64.out.below hbc).lt)
  have Rp3_66 := Lib.hid ((Rp3_64.out.below hbc).lt)
  have Rp4_66 := Lib.hid ((Rp4_64.out.below hbc).lt)
  have Rp5_66 := Lib.hid ((Rp5_64.out.below hbc).lt)
  have Rp6_66 := Lib.hid ((Rp6_64.out.below hbc).lt)
  have Rq1_66 := Lib.hid ((Rq1_64.out.below hbc).lt)
  have Rq2_66 := Lib.hid ((Rq2_64.out.below hbc).lt)
  have Rt1_66 := Lib.hid ((Rt1_64.out.below hbc).lt)
  have Rt2_66 := Lib.hid ((Rt2_64.out.below hbc).lt)
  have Rt3_66 := Lib.hid ((Rt3_64.out.below hbc).lt)
  have Rt4_66 := Lib.hid ((Rt4_64.out.below hbc).lt)
  clear hbc HB64 HR0_64 HR1_64 HR2_64 K0_64 K1_64 K2_64 Rp1_64 Rp2_64 Rp3_64 Rp4_64 Rp5_64 Rp6_64 Rq1_64 Rq2_64 Rt1_64 Rt2_64 Rt3_64 Rt4_64 hb
  refine hK.out _ _ ⟨HB66.out, K0_66.out, K1_66.out, K2_66.out⟩ ?_
  clear hK K
  try simp only [Act.put, List.setIfInBounds_toArray, List.set_cons_zero, List.set_cons_succ]
  repeat (first
    | (refine wpTr_fskip (by simp only [List.getElem?_toArray, List.getElem?_cons_zero, List.getElem?_cons_succ]; rfl) (by rfl) ?_
       simp only [Act.put, List.setIfInBounds_toArray, List.set_cons_zero, List.set_cons_succ])
    | (refine wpTr_float (v := ?_) (by simp only [List.getElem?_toArray, List.getElem?_cons_zero, List.getElem?_cons_succ]; rfl) (by rfl) (fun w' hS => ?_) ?_
       rotate_left
       (obtain ⟨hSb, hSb0, hSb1, hSb2⟩ := hS; have eSb0 := hSb0.cell 0; have lSb0 := hSb0.lt; simp at eSb0; have eSb1 := hSb1.cell 0; have lSb1 := hSb1.lt; simp at eSb1; have eSb2 := hSb2.cell 0; have lSb2 := hSb2.lt; simp at eSb2; go_simp; first | done | rfl)
       simp only [Act.put, List.setIfInBounds_toArray, List.set_cons_zero, List.set_cons_succ]))
  refine wpTr_one ?_
  refine stepTr_K (by simp only [List.getElem?_toArray, List.getElem?_cons_zero, List.getElem?_cons_succ]; rfl) (by rfl) (fun K hK => ?_)
  go_simp
  refine (alive_any _ (HD.out.below HB66.out) (HM.out.below HB66.out)).mono ?_
  rintro e w67 ⟨rfl, hb⟩
  have hbc := hb
  have HB68 := Lib.hid (below_then HB66.out hbc (Nat.le_refl _))
  have HR0_68 := Lib.hid ((HR0_66.out.below hbc).lt)
  have HR1_68 := Lib.hid ((HR1_66.out.below hbc).lt)
  have HR2_68 := Lib.hid ((HR2_66.out.below hbc).lt)
  have K0_68 := Lib.hid (K0_66.out.after hbc)
  have K1_68 := Lib.hid (K1_66.out.after hbc)
  have K2_68 := Lib.hid (K2_66.out.after hbc)
  have Rp1_68 := Lib.hid ((Rp1_66.out.below hbc).lt)
  have Rp2_68 := Lib.hid ((Rp2_66.out.below hbc).lt)
  have Rp3_68 := Lib.hid ((Rp3_66.out.below hbc).lt)
  have Rp4_68 := Lib.hid ((Rp4_66.out.below hbc).lt)
  have Rp5_68 := Lib.hid ((Rp5_66.out.below hbc).lt)
  have Rp6_68 := Lib.hid ((Rp6_66.out.below hbc).lt)
  have Rq1_68 := Lib.hid ((Rq1_66.out.below hbc).lt)
  have Rq2_68 := Lib.hid ((Rq2_66.out.below hbc).lt)
  have Rt1_68 := Lib.hid ((Rt1_66.out.below hbc).lt)
  have Rt2_68 := Lib.hid ((Rt2_66.out.below hbc).lt)
  have Rt3_68 := Lib.hid ((Rt3_66.out.below hbc).lt)
  have Rt4_68 := Lib.hid ((Rt4_66.out.below hbc).lt)
  clear hbc HB66 HR0_66 HR1_66 HR2_66 K0_66 K1_66 K2_66 Rp1_66 Rp2_66 Rp3_66 Rp4_66 Rp5_66 Rp6_66 Rq1_66 Rq2_66 Rt1_66 Rt2_66 Rt3_66 Rt4_66 hb
  refine hK.out _ _ ⟨HB68.out, K0_68.out, K1_68.out, K2_68.out⟩ ?_
  clear hK K
  try simp only [Act.put, List.setIfInBounds_toArray, List.set_cons_zero, List.set_cons_succ]
  repeat (first
    | (refine wpTr_fskip (by simp only [List.getElem?_toArray, List.getElem?_cons_zero, List.getElem?_cons_succ]; rfl) (by rfl) ?_
       simp only [Act.put, List.setIfInBounds_toArray, List.set_cons_zero, List.set_cons_succ])
    | (refine wpTr_float (v := ?_) (by simp only [List.getElem?_toArray, List.getElem?_cons_zero, List.getElem?_cons_succ]; rfl) (by rfl) (fun w' hS => ?_) ?_
       rotate_left
       (obtain ⟨hSb, hSb0, hSb1, hSb2⟩ := hS; have eSb0 := hSb0.cell 0; have lSb0 := hSb0.lt; simp at eSb0; have eSb1 := hSb1.cell 0; have lSb1 := hSb1.lt; simp at eSb1; have eSb2 := hSb2.cell 0; have lSb2 := hSb2.lt; simp at eSb2; go_simp; first | done | rfl)
       simp only [Act.put, List.setIfInBounds_toArray, List.set_cons_zero, List.set_cons_succ]))
  refine wpTr_done ?_
  go_wp2
  go_ret
  exact ⟨rfl, HB68.out⟩
set_option maxRecDepth 100000 in
set_option maxHeartbeats 4000000 in
theorem wTF (w : World) (hd : Digs w) (hm : MaxL w) (A0 : Option Addr) (c0 : Nat) (l0 : List Rg) (_lc0 : l0.length ≤ c0) (_lm0 : c0 ≤ maxLen) (hR0 : Row w w.heap.size A0 (rgs l0)) (A1 : Option Addr) (c1 : Nat) (l1 : List Rg) (_lc1 : l1.length ≤ c1) (_lm1 : c1 ≤ maxLen) (hR1 : Row w w.heap.size A1 (rgs l1)) (A2 : Option Addr) (c2 : Nat) (l2 : List Rg) (_lc2 : l2.length ≤ c2) (_lm2 : c2 ≤ maxLen) (hR2 : Row w w.heap.size A2 (rgs l2)) (hs0 : l0.length ≤ 12) (hs1 : l1.length ≤ 12) (hs2 : l2.length ≤ 12) (HS : Hid ((decide ((l0.length : Int) ≤ 12) && decide ((l1.length : Int) ≤ 12)) = true)) (HT : Hid (decide ((l2.length : Int) ≤ 12) = true)) (hsub : subP l0 l1) (hv1 : subP l1 l0) (hv2 : ¬ subP l1 l2) :
    Calls Tryd.prog 10 #[.agg #[.slice A0 l0.length c0], .agg #[.slice A1 l1.length c1], .agg #[.slice A2 l2.length c2]] w fun e w' => e = .returned (.bool true) ∧ Below w.heap.size w w' := by
  have HD := Lib.hid hd
  have HM := Lib.hid hm
  clear hd hm
  have HB0 := Lib.hid (Below.refl w.heap.size w)
  have HR0_0 := Lib.hid hR0
  clear hR0
  have HR1_0 := Lib.hid hR1
  clear hR1
  have HR2_0 := Lib.hid hR2
  clear hR2
  have qF := run_field_set
  have hb0 := cardS_bd l0
  have hb1 := cardS_bd l1
  obtain ⟨Na, hNa⟩ : ∃ N, cardS l0 = N := ⟨_, rfl⟩
  obtain ⟨Nb, hNb⟩ : ∃ N, cardS l1 = N := ⟨_, rfl⟩
  have HCA : Hid (∀ r, Cnn r → (∀ x, hasP r x ↔ hasP l0 x) → cntR r = Na) := fun r h1 h2 => by rw [← hNa]; exact count_card h1 h2
  have HCB : Hid (∀ r, Cnn r → (∀ x, hasP r x ↔ hasP l1 x) → cntR r = Nb) := fun r h1 h2 => by rw [← hNb]; exact count_card h1 h2
  have HNA := Lib.hid hNa
  have HNB := Lib.hid hNb
  rw [hNa] at hb0
  rw [hNb] at hb1
  obtain ⟨a1, a2⟩ := hb0
  obtain ⟨b1', b2'⟩ := hb1
  clear hNa hNb
  have HSUB := Lib.hid hsub
  have hle : Na ≤ Nb := by rw [← HNA.out, ← HNB.out]; exact cardS_sub hsub
  clear hsub
  have HV1 := Lib.hid hv1
  clear hv1
  have HV2 := Lib.hid hv2
  clear hv2
  go_enter Tryd.func10, Tryd.ntmps10
  go_wp2_with fail
  obtain ⟨n1, hv, hbb, hk0, hk1, hk2⟩ : ∃ v, v = (((w.alloc (.cells #[.slice A0 l0.length c0] 24)).alloc (.cells #[.slice A1 l1.length c1] 24)).alloc (.cells #[.slice A2 l2.length c2] 24)) ∧ Below w.heap.size w v ∧ Blk v (w.heap.size) 24 #[.slice A0 l0.length c0] ∧ Blk v (w.heap.size + 1) 24 #[.slice A1 l1.length c1] ∧ Blk v (w.heap.size + 1 + 1) 24 #[.slice A2 l2.length c2] :=
    ⟨_, rfl, (((Below.refl _ _).alloc (Nat.le_refl _) _).alloc (by simp; try omega) _).alloc (by simp; try omega) _, ((Blk.at_new (by simp; try omega)).alloc _).alloc _, (Blk.at_new (by simp; try omega)).alloc _, Blk.at_new (by simp; try omega)⟩
  rw [← hv]
  clear hv
  obtain ⟨b2, ha⟩ : ∃ a, a = w.heap.size + 1 + 1 := ⟨_, rfl⟩
  rw [← ha] at hk2 ⊢
  clear ha
  obtain ⟨b1, ha⟩ : ∃ a, a = w.heap.size + 1 := ⟨_, rfl⟩
  rw [← ha] at hk1 ⊢
  clear ha
  obtain ⟨b0, ha⟩ : ∃ a, a = w.heap.size := ⟨_, rfl⟩
  rw [← ha] at hk0 ⊢
  clear ha
  have hbc := hbb
  have HB2 := Lib.hid (below_then HB0.out hbc (Nat.le_refl _))
  have HR0_2 := Lib.hid ((HR0_0.out.below hbc).lt)
  have HR1_2 := Lib.hid ((HR1_0.out.below hbc).lt)
  have HR2_2 := Lib.hid ((HR2_0.out.below hbc).lt)
  have K0_2 := Lib.hid (hk0)
  have K1_2 := Lib.hid (hk1)
  have K2_2 := Lib.hid (hk2)
  clear hbc HB0 HR0_0 HR1_0 HR2_0 hbb hk0 hk1 hk2
  refine (small2_any A0 A1 _ _ c0 c1 _ _ HS.out).mono ?_
  rintro e w3 ⟨rfl, hb⟩
  have hbc := hb
  have HB4 := Lib.hid (below_then HB2.out hbc (Nat.le_refl _))
  have HR0_4 := Lib.hid ((HR0_2.out.below hbc).lt)
  have HR1_4 := Lib.hid ((HR1_2.out.below hbc).lt)
  have HR2_4 := Lib.hid ((HR2_2.out.below hbc).lt)
  have K0_4 := Lib.hid (K0_2.out.after hbc)
  have K1_4 := Lib.hid (K1_2.out.after hbc)
  have K2_4 := Lib.hid (K2_2.out.after hbc)
  clear hbc HB2 HR0_2 HR1_2 HR2_2 K0_2 K1_2 K2_2 hb
  have eK2_ := K2_4.out.cell 0
  have lK2_ := K2_4.out.lt
  simp at eK2_
  go_wp2_with fail
  clear eK2_ lK2_
  refine (small_any A2 _ c2 _ _ HT.out).mono ?_
  rintro e w5 ⟨rfl, hb⟩
  have hbc := hb
  have HB6 := Lib.hid (below_then HB4.out hbc (Nat.le_refl _))
  have HR0_6 := Lib.hid ((HR0_4.out.below hbc).lt)
  have HR1_6 := Lib.hid ((HR1_4.out.below hbc).lt)
  have HR2_6 := Lib.hid ((HR2_4.out.below hbc).lt)
  have K0_6 := Lib.hid (K0_4.out.after hbc)
  have K1_6 := Lib.hid (K1_4.out.after hbc)
  have K2_6 := Lib.hid (K2_4.out.after hbc)
  clear hbc HB4 HR0_4 HR1_4 HR2_4 K0_4 K1_4 K2_4 hb
  have eK0_ := K0_6.out.cell 0
  have lK0_ := K0_6.out.lt
  simp at eK0_
  have eK1_ := K1_6.out.cell 0
  have lK1_ := K1_6.out.lt
  simp at eK1_
  go_wp2_with fail
  clear eK0_ lK0_
  clear eK1_ lK1_
  refine (subset_any A0 A1 c0 c1 l0 l1 _ HR0_6.out HR1_6.out (by omega) (by omega) true ⟨fun _ => HSUB.out, fun _ => rfl⟩).mono ?_
  rintro e w7 ⟨rfl, hb⟩
  have hbc := hb
  have HB8 := Lib.hid (below_then HB6.out hbc (Nat.le_refl _))
  have HR0_8 := Lib.hid ((HR0_6.out.below hbc).lt)
  have HR1_8 := Lib.hid ((HR1_6.out.below hbc).lt)
  have HR2_8 := Lib.hid ((HR2_6.out.below hbc).lt)
  have K0_8 := Lib.hid (K0_6.out.after hbc)
  have K1_8 := Lib.hid (K1_6.out.after hbc)
  have K2_8 := Lib.hid (K2_6.out.after hbc)
  clear hbc HB6 HR0_6 HR1_6 HR2_6 K0_6 K1_6 K2_6 hb
  go_wp2_with fail
  refine wp_region_tree (fun w' => Below w.heap.size w w' ∧ Blk w' b0 24 #[.slice A0 l0.length c0] ∧ Blk w' b1 24 #[.slice A1 l1.length c1] ∧ Blk w' b2 24 #[.slice A2 l2.length c2]) (.float 0 (.float 1 (.float 2 (.one 3 (.float 4 (.float 5 (.float 6 (.float 7 (.float 8 (.float 9 (.float 10 (.float 11 (.float 13 (.float 14 (.one 12 (.one 15 (.one 16 (.float 17 (.float 18 (.float 19 (.float 20 (.float 21 (.float 23 (.float 24 (.one 22 (.one 25 (.one 26 (.one 27 (.float 28 (.float 29 .done)))))))))))))))))))))))))))))) (by kernel_rfl) (by kernel_rfl) (fun _ _ d _ _ h => by cases d <;> exact h) ⟨HB8.out.drew, K0_8.out.drew, K1_8.out.drew, K2_8.out.drew⟩ ?_
  obtain ⟨d9, hdr, hbd⟩ : ∃ d, d = w7.drew ∧ Below w7.heap.size w7 d := ⟨_, rfl, (Below.refl _ _).drew⟩
  rw [← hdr]
  clear hdr
  have hbc := hbd
  have HB10 := Lib.hid (below_then HB8.out hbc (Nat.le_refl _))
  have HR0_10 := Lib.hid ((HR0_8.out.below hbc).lt)
  have HR1_10 := Lib.hid ((HR1_8.out.below hbc).lt)
  have HR2_10 := Lib.hid ((HR2_8.out.below hbc).lt)
  have K0_10 := Lib.hid (K0_8.out.after hbc)
  have K1_10 := Lib.hid (K1_8.out.after hbc)
  have K2_10 := Lib.hid (K2_8.out.after hbc)
  clear hbc HB8 HR0_8 HR1_8 HR2_8 K0_8 K1_8 K2_8 hbd
  repeat (first
    | (refine wpTr_fskip (by simp only [List.getElem?_toArray, List.getElem?_cons_zero, List.getElem?_cons_succ]; rfl) (by rfl) ?_
       simp only [Act.put, List.setIfInBounds_toArray, List.set_cons_zero, List.set_cons_succ])
    | (refine wpTr_float (v := ?_) (by simp only [List.getElem?_toArray, List.getElem?_cons_zero, List.getElem?_cons_succ]; rfl) (by rfl) (fun w' hS => ?_) ?_
       rotate_left
       (obtain ⟨hSb, hSb0, hSb1, hSb2⟩ := hS; have eSb0 := hSb0.cell 0; have lSb0 := hSb0.lt; simp at eSb0; have eSb1 := hSb1.cell 0; have lSb1 := hSb1.lt; simp at eSb1; have eSb2 := hSb2.cell 0; have lSb2 := hSb2.lt; simp at eSb2; go_simp; first | done | rfl)
       simp only [Act.put, List.setIfInBounds_toArray, List.set_cons_zero, List.set_cons_succ]))
  refine wpTr_one ?_
  refine stepTr_K (by simp only [List.getElem?_toArray, List.getElem?_cons_zero, List.getElem?_cons_succ]; rfl) (by rfl) (fun K hK => ?_)
  go_simp
  refine (minus_any A0 A1 c0 c1 l0 l1 _ HR0_10.out HR1_10.out (by omega) (by omega)).mono ?_
  rintro e w11 ⟨Ap1, cp1, rp1, rfl, hc, hh, hr, hb⟩
  have hbc := hb
  have HB12 := Lib.hid (below_then HB10.out hbc (Nat.le_refl _))
  have HR0_12 := Lib.hid ((HR0_10.out.below hbc).lt)
  have HR1_12 := Lib.hid ((HR1_10.out.below hbc).lt)
  have HR2_12 := Lib.hid ((HR2_10.out.below hbc).lt)
  have K0_12 := Lib.hid (K0_10.out.after hbc)
  have K1_12 := Lib.hid (K1_10.out.after hbc)
  have K2_12 := Lib.hid (K2_10.out.after hbc)
  have Rp1_12 := Lib.hid (hr)
  clear hbc HB10 HR0_10 HR1_10 HR2_10 K0_10 K1_10 K2_10 hb hr
  have Cp1 := Lib.hid hc
  have Mp1 := Lib.hid hh
  clear hc hh
  obtain rfl : rp1 = [] := List.eq_nil_of_length_eq_zero ((can_empty Cp1.out).2 (fun x => by simp only [Mp1.out]; rintro ⟨h1, h2⟩; exact h2 (HSUB.out x h1)))
  refine hK.out _ _ ⟨HB12.out, K0_12.out, K1_12.out, K2_12.out⟩ ?_
  clear hK K
  try simp only [Act.put, List.setIfInBounds_toArray, List.set_cons_zero, List.set_cons_succ]
  repeat (first
    | (refine wpTr_fskip (by simp only [List.getElem?_toArray, List.getElem?_cons_zero, List.getElem?_cons_succ]; rfl) (by rfl) ?_
       simp only [Act.put, List.setIfInBounds_toArray, List.set_cons_zero, List.set_cons_succ])
    | (refine wpTr_float (v := ?_) (by simp only [List.getElem?_toArray, List.getElem?_cons_zero, List.getElem?_cons_succ]; rfl) (by rfl) (fun w' hS => ?_) ?_
       rotate_left
       (obtain ⟨hSb, hSb0, hSb1, hSb2⟩ := hS; have eSb0 := hSb0.cell 0; have lSb0 := hSb0.lt; simp at eSb0; have eSb1 := hSb1.cell 0; have lSb1 := hSb1.lt; simp at eSb1; have eSb2 := hSb2.cell 0; have lSb2 := hSb2.lt; simp at eSb2; go_simp; first | done | rfl)
       simp only [Act.put, List.setIfInBounds_toArray, List.set_cons_zero, List.set_cons_succ]))
  refine wpTr_one ?_
  refine stepTr_K (by simp only [List.getElem?_toArray, List.getElem?_cons_zero, List.getElem?_cons_succ]; rfl) (by rfl) (fun K hK => ?_)
  go_simp
  refine (or_any A0 A1 c0 c1 l0 l1 _ HR0_12.out HR1_12.out (by omega) (by omega)).mono ?_
  rintro e w13 ⟨Ap2, cp2, rp2, rfl, hc, hh, hr, hb⟩
  have hbc := hb
  have HB14 := Lib.hid (below_then HB12.out hbc (Nat.le_refl _))
  have HR0_14 := Lib.hid ((HR0_12.out.below hbc).lt)
  have HR1_14 := Lib.hid ((HR1_12.out.below hbc).lt)
  have HR2_14 := Lib.hid ((HR2_12.out.below hbc).lt)
  have K0_14 := Lib.hid (K0_12.out.after hbc)
  have K1_14 := Lib.hid (K1_12.out.after hbc)
  have K2_14 := Lib.hid (K2_12.out.after hbc)
  have Rp1_14 := Lib.hid ((Rp1_12.out.below hbc).lt)
  have Rp2_14 := Lib.hid (hr)
  clear hbc HB12 HR0_12 HR1_12 HR2_12 K0_12 K1_12 K2_12 Rp1_12 hb hr
  have Cp2 := Lib.hid hc
  have Mp2 := Lib.hid hh
  clear hc hh
  refine hK.out _ _ ⟨HB14.out, K0_14.out, K1_14.out, K2_14.out⟩ ?_
  clear hK K
  try simp only [Act.put, List.setIfInBounds_toArray, List.set_cons_zero, List.set_cons_succ]
  refine wpTr_one ?_
  refine stepTr_K (by simp only [List.getElem?_toArray, List.getElem?_cons_zero, List.getElem?_cons_succ]; rfl) (by rfl) (fun K hK => ?_)
  go_simp
  refine (make_any A1 c1 l1 _ HR1_14.out (by omega)).mono ?_
  rintro e w15 ⟨Ap3, cp3, rp3, rfl, hc, hh, hr, hb⟩
  have hbc := hb
  have HB16 := Lib.hid (below_then HB14.out hbc (Nat.le_refl _))
  have HR0_16 := Lib.hid ((HR0_14.out.below hbc).lt)
  have HR1_16 := Lib.hid ((HR1_14.out.below hbc).lt)
  have HR2_16 := Lib.hid ((HR2_14.out.below hbc).lt)
  have K0_16 := Lib.hid (K0_14.out.after hbc)
  have K1_16 := Lib.hid (K1_14.out.after hbc)
  have K2_16 := Lib.hid (K2_14.out.after hbc)
  have Rp1_16 := Lib.hid ((Rp1_14.out.below hbc).lt)
  have Rp2_16 := Lib.hid ((Rp2_14.out.below hbc).lt)
  have Rp3_16 := Lib.hid (hr)
  clear hbc HB14 HR0_14 HR1_14 HR2_14 K0_14 K1_14 K2_14 Rp1_14 Rp2_14 hb hr
  have Cp3 := Lib.hid hc
  have Mp3 := Lib.hid hh
  clear hc hh
  refine hK.out _ _ ⟨HB16.out, K0_16.out, K1_16.out, K2_16.out⟩ ?_
  clear hK K
  try simp only [Act.put, List.setIfInBounds_toArray, List.set_cons_zero, List.set_cons_succ]
  refine wpTr_one ?_
  refine stepTr_K (by simp only [List.getElem?_toArray, List.getElem?_cons_zero, List.getElem?_cons_succ]; rfl) (by rfl) (fun K hK => ?_)
  go_simp
  refine (same_any Ap2 Ap3 cp2 cp3 _ _ rp2 rp3 rfl rfl _ Rp2_16.out Rp3_16.out (by have := can_len Cp2.out; simp only [maxLen]; omega) (by have := can_len Cp3.out; simp only [maxLen]; omega) true (decide_eq_true (can_eq Cp2.out Cp3.out (fun x => by
          simp only [Mp2.out, Mp3.out]
          exact ⟨fun h => h.elim (HSUB.out x) id, .inr⟩)))).mono ?_
  rintro e w17 ⟨rfl, hb⟩
  have hbc := hb
  have HB18 := Lib.hid (below_then HB16.out hbc (Nat.le_refl _))
  have HR0_18 := Lib.hid ((HR0_16.out.below hbc).lt)
  have HR1_18 := Lib.hid ((HR1_16.out.below hbc).lt)
  have HR2_18 := Lib.hid ((HR2_16.out.below hbc).lt)
  have K0_18 := Lib.hid (K0_16.out.after hbc)
  have K1_18 := Lib.hid (K1_16.out.after hbc)
  have K2_18 := Lib.hid (K2_16.out.after hbc)
  have Rp1_18 := Lib.hid ((Rp1_16.out.below hbc).lt)
  have Rp2_18 := Lib.hid ((Rp2_16.out.below hbc).lt)
  have Rp3_18 := Lib.hid ((Rp3_16.out.below hbc).lt)
  clear hbc HB16 HR0_16 HR1_16 HR2_16 K0_16 K1_16 K2_16 Rp1_16 Rp2_16 Rp3_16 hb
  refine hK.out _ _ ⟨HB18.out, K0_18.out, K1_18.out, K2_18.out⟩ ?_
  clear hK K
  try simp only [Act.put, List.setIfInBounds_toArray, List.set_cons_zero, List.set_cons_succ]
  repeat (first
    | (refine wpTr_fskip (by simp only [List.getElem?_toArray, List.getElem?_cons_zero, List.getElem?_cons_succ]; rfl) (by rfl) ?_
       simp only [Act.put, List.setIfInBounds_toArray, List.set_cons_zero, List.set_cons_succ])
    | (refine wpTr_float (v := ?_) (by simp only [List.getElem?_toArray, List.getElem?_cons_zero, List.getElem?_cons_succ]; rfl) (by rfl) (fun w' hS => ?_) ?_
       rotate_left
       (obtain ⟨hSb, hSb0, hSb1, hSb2⟩ := hS; have eSb0 := hSb0.cell 0; have lSb0 := hSb0.lt; simp at eSb0; have eSb1 := hSb1.cell 0; have lSb1 := hSb1.lt; simp at eSb1; have eSb2 := hSb2.cell 0; have lSb2 := hSb2.lt; simp at eSb2; go_simp; first | done | rfl)
       simp only [Act.put, List.setIfInBounds_toArray, List.set_cons_zero, List.set_cons_succ]))
  refine wpTr_one ?_
  refine stepTr_K (by simp only [List.getElem?_toArray, List.getElem?_cons_zero, List.getElem?_cons_succ]; rfl) (by rfl) (fun K hK => ?_)
  go_simp
  refine (minus_any A0 A1 c0 c1 l0 l1 _ HR0_18.out HR1_18.out (by omega) (by omega)).mono ?_
  rintro e w19 ⟨Ap4, cp4, rp4, rfl, hc, hh, hr, hb⟩
  have hbc := hb
  have HB20 := Lib.hid (below_then HB18.out hbc (Nat.le_refl _))
  have HR0_20 := Lib.hid ((HR0_18.out.below hbc).lt)
  have HR1_20 := Lib.hid ((HR1_18.out.below hbc).lt)
  have HR2_20 := Lib.hid ((HR2_18.out.below hbc).lt)
  have K0_20 := Lib.hid (K0_18.out.after hbc)
  have K1_20 := Lib.hid (K1_18.out.after hbc)
  have K2_20 := Lib.hid (K2_18.out.after hbc)
  have Rp1_20 := Lib.hid ((Rp1_18.out.below hbc).lt)
  have Rp2_20 := Lib.hid ((Rp2_18.out.below hbc).lt)
  have Rp3_20 := Lib.hid ((Rp3_18.out.below hbc).lt)
  have Rp4_20 := Lib.hid (hr)
  clear hbc HB18 HR0_18 HR1_18 HR2_18 K0_18 K1_18 K2_18 Rp1_18 Rp2_18 Rp3_18 hb hr
  have Cp4 := Lib.hid hc
  have Mp4 := Lib.hid hh
  clear hc hh
  refine hK.out _ _ ⟨HB20.out, K0_20.out, K1_20.out, K2_20.out⟩ ?_
  clear hK K
  try simp only [Act.put, List.setIfInBounds_toArray, List.set_cons_zero, List.set_cons_succ]
  refine wpTr_one ?_
  refine stepTr_K (by simp only [List.getElem?_toArray, List.getElem?_cons_zero, List.getElem?_cons_succ]; rfl) (by rfl) (fun K hK => ?_)
  go_simp
  refine (not_any A1 c1 l1 _ HR1_20.out (by omega)).mono ?_
  rintro e w21 ⟨Ap5, cp5, rp5, rfl, hc, hh, hr, hb⟩
  have hbc := hb
  have HB22 := Lib.hid (below_then HB20.out hbc (Nat.le_refl _))
  have HR0_22 := Lib.hid ((HR0_20.out.below hbc).lt)
  have HR1_22 := Lib.hid ((HR1_20.out.below hbc).lt)
  have HR2_22 := Lib.hid ((HR2_20.out.below hbc).lt)
  have K0_22 := Lib.hid (K0_20.out.after hbc)
  have K1_22 := Lib.hid (K1_20.out.after hbc)
  have K2_22 := Lib.hid (K2_20.out.after hbc)
  have Rp1_22 := Lib.hid ((Rp1_20.out.below hbc).lt)
  have Rp2_22 := Lib.hid ((Rp2_20.out.below hbc).lt)
  have Rp3_22 := Lib.hid ((Rp3_20.out.below hbc).lt)
  have Rp4_22 := Lib.hid ((Rp4_20.out.below hbc).lt)
  have Rp5_22 := Lib.hid (hr)
  clear hbc HB20 HR0_20 HR1_20 HR2_20 K0_20 K1_20 K2_20 Rp1_20 Rp2_20 Rp3_20 Rp4_20 hb hr
  have Cp5 := Lib.hid hc
  have Mp5 := Lib.hid hh
  clear hc hh
  refine hK.out _ _ ⟨HB22.out, K0_22.out, K1_22.out, K2_22.out⟩ ?_
  clear hK K
  try simp only [Act.put, List.setIfInBounds_toArray, List.set_cons_zero, List.set_cons_succ]
  refine wpTr_one ?_
  refine stepTr_K (by simp only [List.getElem?_toArray, List.getElem?_cons_zero, List.getElem?_cons_succ]; rfl) (by rfl) (fun K hK => ?_)
  go_simp
  refine (and_any A0 Ap5 c0 cp5 l0 rp5 _ HR0_22.out Rp5_22.out (by omega) (by have := can_len Cp5.out; omega)).mono ?_
  rintro e w23 ⟨Ap6, cp6, rp6, rfl, hc, hh, hr, hb⟩
  have hbc := hb
  have HB24 := Lib.hid (below_then HB22.out hbc (Nat.le_refl _))
  have HR0_24 := Lib.hid ((HR0_22.out.below hbc).lt)
  have HR1_24 := Lib.hid ((HR1_22.out.below hbc).lt)
  have HR2_24 := Lib.hid ((HR2_22.out.below hbc).lt)
  have K0_24 := Lib.hid (K0_22.out.after hbc)
  have K1_24 := Lib.hid (K1_22.out.after hbc)
  have K2_24 := Lib.hid (K2_22.out.after hbc)
  have Rp1_24 := Lib.hid ((Rp1_22.out.below hbc).lt)
  have Rp2_24 := Lib.hid ((Rp2_22.out.below hbc).lt)
  have Rp3_24 := Lib.hid ((Rp3_22.out.below hbc).lt)
  have Rp4_24 := Lib.hid ((Rp4_22.out.below hbc).lt)
  have Rp5_24 := Lib.hid ((Rp5_22.out.below hbc).lt)
  have Rp6_24 := Lib.hid (hr)
  clear hbc HB22 HR0_22 HR1_22 HR2_22 K0_22 K1_22 K2_22 Rp1_22 Rp2_22 Rp3_22 Rp4_22 Rp5_22 hb hr
  have Cp6 := Lib.hid hc
  have Mp6 := Lib.hid hh
  clear hc hh
  refine hK.out _ _ ⟨HB24.out, K0_24.out, K1_24.out, K2_24.out⟩ ?_
  clear hK K
  try simp only [Act.put, List.setIfInBounds_toArray, List.set_cons_zero, List.set_cons_succ]
  refine wpTr_one ?_
  refine stepTr_K (by simp only [List.getElem?_toArray, List.getElem?_cons_zero, List.getElem?_cons_succ]; rfl) (by rfl) (fun K hK => ?_)
  go_simp
  refine (same_any Ap4 Ap6 cp4 cp6 _ _ rp4 rp6 rfl rfl _ Rp4_24.out Rp6_24.out (by have := can_len Cp4.out; simp only [maxLen]; omega) (by have := can_len Cp6.out; simp only [maxLen]; omega) true (decide_eq_true (can_eq Cp4.out Cp6.out (fun x => by
        simp only [Mp4.out, Mp6.out, Mp5.out]
        all_goals (by_cases hk : codeP x <;> by_cases hh0 : hasP l0 x <;> by_cases hh1 : hasP l1 x <;> first | (simp [hk, hh0, hh1]; done) | exact absurd hh0.1 hk | exact absurd hh1.1 hk))))).mono ?_
  rintro e w25 ⟨rfl, hb⟩
  have hbc := hb
  have HB26 := Lib.hid (below_then HB24.out hbc (Nat.le_refl _))
  have HR0_26 := Lib.hid ((HR0_24.out.below hbc).lt)
  have HR1_26 := Lib.hid ((HR1_24.out.below hbc).lt)
  have HR2_26 := Lib.hid ((HR2_24.out.below hbc).lt)
  have K0_26 := Lib.hid (K0_24.out.after hbc)
  have K1_26 := Lib.hid (K1_24.out.after hbc)
  have K2_26 := Lib.hid (K2_24.out.after hbc)
  have Rp1_26 := Lib.hid ((Rp1_24.out.below hbc).lt)
  have Rp2_26 := Lib.hid ((Rp2_24.out.below hbc).lt)
  have Rp3_26 := Lib.hid ((Rp3_24.out.below hbc).lt)
  have Rp4_26 := Lib.hid ((Rp4_24.out.below hbc).lt)
  have Rp5_26 := Lib.hid ((Rp5_24.out.below hbc).lt)
  have Rp6_26 := Lib.hid ((Rp6_24.out.below hbc).lt)
  clear hbc HB24 HR0_24 HR1_24 HR2_24 K0_24 K1_24 K2_24 Rp1_24 Rp2_24 Rp3_24 Rp4_24 Rp5_24 Rp6_24 hb
  refine hK.out _ _ ⟨HB26.out, K0_26.out, K1_26.out, K2_26.out⟩ ?_
  clear hK K
  try simp only [Act.put, List.setIfInBounds_toArray, List.set_cons_zero, List.set_cons_succ]
  repeat (first
    | (refine wpTr_fskip (by simp only [List.getElem?_toArray, List.getElem?_cons_zero, List.getElem?_cons_succ]; rfl) (by rfl) ?_
       simp only [Act.put, List.setIfInBounds_toArray, List.set_cons_zero, List.set_cons_succ])
    | (refine wpTr_float (v := ?_) (by simp only [List.getElem?_toArray, List.getElem?_cons_zero, List.getElem?_cons_succ]; rfl) (by rfl) (fun w' hS => ?_) ?_
       rotate_left
       (obtain ⟨hSb, hSb0, hSb1, hSb2⟩ := hS; have eSb0 := hSb0.cell 0; have lSb0 := hSb0.lt; simp at eSb0; have eSb1 := hSb1.cell 0; have lSb1 := hSb1.lt; simp at eSb1; have eSb2 := hSb2.cell 0; have lSb2 := hSb2.lt; simp at eSb2; go_simp; first | done | rfl)
       simp only [Act.put, List.setIfInBounds_toArray, List.set_cons_zero, List.set_cons_succ]))
  refine wpTr_done ?_
  go_wp2_with fail
  refine wp_region_tree (fun w' => Below w.heap.size w w' ∧ Blk w' b0 24 #[.slice A0 l0.length c0] ∧ Blk w' b1 24 #[.slice A1 l1.length c1] ∧ Blk w' b2 24 #[.slice A2 l2.length c2]) (.float 0 (.float 1 (.float 2 (.float 3 (.float 5 (.float 6 (.float 8 (.float 9 (.one 4 (.one 7 (.one 10 (.one 11 (.float 12 (.float 13 (.float 14 (.float 15 (.float 16 (.float 17 (.float 18 (.one 19 (.float 20 (.float 21 (.float 22 (.float 23 (.one 24 (.float 25 (.float 26 (.float 27 (.float 28 (.float 29 (.float 30 (.float 31 (.float 33 (.one 32 (.one 34 (.float 35 (.float 36 (.float 37 .done)))))))))))))))))))))))))))))))))))))) (by kernel_rfl) (by kernel_rfl) (fun _ _ d _ _ h => by cases d <;> exact h) ⟨HB26.out.drew, K0_26.out.drew, K1_26.out.drew, K2_26.out.drew⟩ ?_
  obtain ⟨d27, hdr, hbd⟩ : ∃ d, d = w25.drew ∧ Below w25.heap.size w25 d := ⟨_, rfl, (Below.refl _ _).drew⟩
  rw [← hdr]
  clear hdr
  have hbc := hbd
  have HB28 := Lib.hid (below_then HB26.out hbc (Nat.le_refl _))
  have HR0_28 := Lib.hid ((HR0_26.out.below hbc).lt)
  have HR1_28 := Lib.hid ((HR1_26.out.below hbc).lt)
  have HR2_28 := Lib.hid ((HR2_26.out.below hbc).lt)
  have K0_28 := Lib.hid (K0_26.out.after hbc)
  have K1_28 := Lib.hid (K1_26.out.after hbc)
  have K2_28 := Lib.hid (K2_26.out.after hbc)
  have Rp1_28 := Lib.hid ((Rp1_26.out.below hbc).lt)
  have Rp2_28 := Lib.hid ((Rp2_26.out.below hbc).lt)
  have Rp3_28 := Lib.hid ((Rp3_26.out.below hbc).lt)
  have Rp4_28 := Lib.hid ((Rp4_26.out.below hbc).lt)
  have Rp5_28 := Lib.hid ((Rp5_26.out.below hbc).lt)
  have Rp6_28 := Lib.hid ((Rp6_26.out.below hbc).lt)
  clear hbc HB26 HR0_26 HR1_26 HR2_26 K0_26 K1_26 K2_26 Rp1_26 Rp2_26 Rp3_26 Rp4_26 Rp5_26 Rp6_26 hbd
  repeat (first
    | (refine wpTr_fskip (by simp only [List.getElem?_toArray, List.getElem?_cons_zero, List.getElem?_cons_succ]; rfl) (by rfl) ?_
       simp only [Act.put, List.setIfInBounds_toArray, List.set_cons_zero, List.set_cons_succ])
    | (refine wpTr_float (v := ?_) (by simp only [List.getElem?_toArray, List.getElem?_cons_zero, List.getElem?_cons_succ]; rfl) (by rfl) (fun w' hS => ?_) ?_
       rotate_left
       (obtain ⟨hSb, hSb0, hSb1, hSb2⟩ := hS; have eSb0 := hSb0.cell 0; have lSb0 := hSb0.lt; simp at eSb0; have eSb1 := hSb1.cell 0; have lSb1 := hSb1.lt; simp at eSb1; have eSb2 := hSb2.cell 0; have lSb2 := hSb2.lt; simp at eSb2; go_simp; first | done | rfl)
       simp only [Act.put, List.setIfInBounds_toArray, List.set_cons_zero, List.set_cons_succ]))
  refine wpTr_one ?_
  refine stepTr_K (by simp only [List.getElem?_toArray, List.getElem?_cons_zero, List.getElem?_cons_succ]; rfl) (by rfl) (fun K hK => ?_)
  go_simp
  refine (subset_any A1 A0 c1 c0 l1 l0 _ HR1_28.out HR0_28.out (by omega) (by omega) true ⟨fun _ => HV1.out, fun _ => rfl⟩).mono ?_
  rintro e w29 ⟨rfl, hb⟩
  have hbc := hb
  have HB30 := Lib.hid (below_then HB28.out hbc (Nat.le_refl _))
  have HR0_30 := Lib.hid ((HR0_28.out.below hbc).lt)
  have HR1_30 := Lib.hid ((HR1_28.out.below hbc).lt)
  have HR2_30 := Lib.hid ((HR2_28.out.below hbc).lt)
  have K0_30 := Lib.hid (K0_28.out.after hbc)
  have K1_30 := Lib.hid (K1_28.out.after hbc)
  have K2_30 := Lib.hid (K2_28.out.after hbc)
  have Rp1_30 := Lib.hid ((Rp1_28.out.below hbc).lt)
  have Rp2_30 := Lib.hid ((Rp2_28.out.below hbc).lt)
  have Rp3_30 := Lib.hid ((Rp3_28.out.below hbc).lt)
  have Rp4_30 := Lib.hid ((Rp4_28.out.below hbc).lt)
  have Rp5_30 := Lib.hid ((Rp5_28.out.below hbc).lt)
  have Rp6_30 := Lib.hid ((Rp6_28.out.below hbc).lt)
  clear hbc HB28 HR0_28 HR1_28 HR2_28 K0_28 K1_28 K2_28 Rp1_28 Rp2_28 Rp3_28 Rp4_28 Rp5_28 Rp6_28 hb
  refine hK.out _ _ ⟨HB30.out, K0_30.out, K1_30.out, K2_30.out⟩ ?_
  clear hK K
  try simp only [Act.put, List.setIfInBounds_toArray, List.set_cons_zero, List.set_cons_succ]
  refine wpTr_one ?_
  refine stepTr_K (by simp only [List.getElem?_toArray, List.getElem?_cons_zero, List.getElem?_cons_succ]; rfl) (by rfl) (fun K hK => ?_)
  go_simp
  refine (make_any A0 c0 l0 _ HR0_30.out (by omega)).mono ?_
  rintro e w31 ⟨Aq1, cq1, rq1, rfl, hc, hh, hr, hb⟩
  have hbc := hb
  have HB32 := Lib.hid (below_then HB30.out hbc (Nat.le_refl _))
  have HR0_32 := Lib.hid ((HR0_30.out.below hbc).lt)
  have HR1_32 := Lib.hid ((HR1_30.out.below hbc).lt)
  have HR2_32 := Lib.hid ((HR2_30.out.below hbc).lt)
  have K0_32 := Lib.hid (K0_30.out.after hbc)
  have K1_32 := Lib.hid (K1_30.out.after hbc)
  have K2_32 := Lib.hid (K2_30.out.after hbc)
  have Rp1_32 := Lib.hid ((Rp1_30.out.below hbc).lt)
  have Rp2_32 := Lib.hid ((Rp2_30.out.below hbc).lt)
  have Rp3_32 := Lib.hid ((Rp3_30.out.below hbc).lt)
  have Rp4_32 := Lib.hid ((Rp4_30.out.below hbc).lt)
  have Rp5_32 := Lib.hid ((Rp5_30.out.below hbc).lt)
  have Rp6_32 := Lib.hid ((Rp6_30.out.below hbc).lt)
  have Rq1_32 := Lib.hid (hr)
  clear hbc HB30 HR0_30 HR1_30 HR2_30 K0_30 K1_30 K2_30 Rp1_30 Rp2_30 Rp3_30 Rp4_30 Rp5_30 Rp6_30 hb hr
  have Cq1 := Lib.hid hc
  have Mq1 := Lib.hid hh
  clear hc hh
  refine hK.out _ _ ⟨HB32.out, K0_32.out, K1_32.out, K2_32.out⟩ ?_
  clear hK K
  try simp only [Act.put, List.setIfInBounds_toArray, List.set_cons_zero, List.set_cons_succ]
  refine wpTr_one ?_
  refine stepTr_K (by simp only [List.getElem?_toArray, List.getElem?_cons_zero, List.getElem?_cons_succ]; rfl) (by rfl) (fun K hK => ?_)
  go_simp
  refine (make_any A1 c1 l1 _ HR1_32.out (by omega)).mono ?_
  rintro e w33 ⟨Aq2, cq2, rq2, rfl, hc, hh, hr, hb⟩
  have hbc := hb
  have HB34 := Lib.hid (below_then HB32.out hbc (Nat.le_refl _))
  have HR0_34 := Lib.hid ((HR0_32.out.below hbc).lt)
  have HR1_34 := Lib.hid ((HR1_32.out.below hbc).lt)
  have HR2_34 := Lib.hid ((HR2_32.out.below hbc).lt)
  have K0_34 := Lib.hid (K0_32.out.after hbc)
  have K1_34 := Lib.hid (K1_32.out.after hbc)
  have K2_34 := Lib.hid (K2_32.out.after hbc)
  have Rp1_34 := Lib.hid ((Rp1_32.out.below hbc).lt)
  have Rp2_34 := Lib.hid ((Rp2_32.out.below hbc).lt)
  have Rp3_34 := Lib.hid ((Rp3_32.out.below hbc).lt)
  have Rp4_34 := Lib.hid ((Rp4_32.out.below hbc).lt)
  have Rp5_34 := Lib.hid ((Rp5_32.out.below hbc).lt)
  have Rp6_34 := Lib.hid ((Rp6_32.out.below hbc).lt)
  have Rq1_34 := Lib.hid ((Rq1_32.out.below hbc).lt)
  have Rq2_34 := Lib.hid (hr)
  clear hbc HB32 HR0_32 HR1_32 HR2_32 K0_32 K1_32 K2_32 Rp1_32 Rp2_32 Rp3_32 Rp4_32 Rp5_32 Rp6_32 Rq1_32 hb hr
  have Cq2 := Lib.hid hc
  have Mq2 := Lib.hid hh
  clear hc hh
  refine hK.out _ _ ⟨HB34.out, K0_34.out, K1_34.out, K2_34.out⟩ ?_
  clear hK K
  try simp only [Act.put, List.setIfInBounds_toArray, List.set_cons_zero, List.set_cons_succ]
  refine wpTr_one ?_
  refine stepTr_K (by simp only [List.getElem?_toArray, List.getElem?_cons_zero, List.getElem?_cons_succ]; rfl) (by rfl) (fun K hK => ?_)
  go_simp
  refine (same_any Aq1 Aq2 cq1 cq2 _ _ rq1 rq2 rfl rfl _ Rq1_34.out Rq2_34.out (by have := can_len Cq1.out; simp only [maxLen]; omega) (by have := can_len Cq2.out; simp only [maxLen]; omega) true (decide_eq_true (can_eq Cq1.out Cq2.out (fun x => by
          simp only [Mq1.out, Mq2.out]
          exact ⟨HSUB.out x, HV1.out x⟩)))).mono ?_
  rintro e w35 ⟨rfl, hb⟩
  have hbc := hb
  have HB36 := Lib.hid (below_then HB34.out hbc (Nat.le_refl _))
  have HR0_36 := Lib.hid ((HR0_34.out.below hbc).lt)
  have HR1_36 := Lib.hid ((HR1_34.out.below hbc).lt)
  have HR2_36 := Lib.hid ((HR2_34.out.below hbc).lt)
  have K0_36 := Lib.hid (K0_34.out.after hbc)
  have K1_36 := Lib.hid (K1_34.out.after hbc)
  have K2_36 := Lib.hid (K2_34.out.after hbc)
  have Rp1_36 := Lib.hid ((Rp1_34.out.below hbc).lt)
  have Rp2_36 := Lib.hid ((Rp2_34.out.below hbc).lt)
  have Rp3_36 := Lib.hid ((Rp3_34.out.below hbc).lt)
  have Rp4_36 := Lib.hid ((Rp4_34.out.below hbc).lt)
  have Rp5_36 := Lib.hid ((Rp5_34.out.below hbc).lt)
  have Rp6_36 := Lib.hid ((Rp6_34.out.below hbc).lt)
  have Rq1_36 := Lib.hid ((Rq1_34.out.below hbc).lt)
  have Rq2_36 := Lib.hid ((Rq2_34.out.below hbc).lt)
  clear hbc HB34 HR0_34 HR1_34 HR2_34 K0_34 K1_34 K2_34 Rp1_34 Rp2_34 Rp3_34 Rp4_34 Rp5_34 Rp6_34 Rq1_34 Rq2_34 hb
  refine hK.out _ _ ⟨HB36.out, K0_36.out, K1_36.out, K2_36.out⟩ ?_
  clear hK K
  try simp only [Act.put, List.setIfInBounds_toArray, List.set_cons_zero, List.set_cons_succ]
  repeat (first
    | (refine wpTr_fskip (by simp only [List.getElem?_toArray, List.getElem?_cons_zero, List.getElem?_cons_succ]; rfl) (by rfl) ?_
       simp only [Act.put, List.setIfInBounds_toArray, List.set_cons_zero, List.set_cons_succ])
    | (refine wpTr_float (v := ?_) (by simp only [List.getElem?_toArray, List.getElem?_cons_zero, List.getElem?_cons_succ]; rfl) (by rfl) (fun w' hS => ?_) ?_
       rotate_left
       (obtain ⟨hSb, hSb0, hSb1, hSb2⟩ := hS; have eSb0 := hSb0.cell 0; have lSb0 := hSb0.lt; simp at eSb0; have eSb1 := hSb1.cell 0; have lSb1 := hSb1.lt; simp at eSb1; have eSb2 := hSb2.cell 0; have lSb2 := hSb2.lt; simp at eSb2; go_simp; first | done | rfl)
       simp only [Act.put, List.setIfInBounds_toArray, List.set_cons_zero, List.set_cons_succ]))
  refine wpTr_one ?_
  refine stepTr_K (by simp only [List.getElem?_toArray, List.getElem?_cons_zero, List.getElem?_cons_succ]; rfl) (by rfl) (fun K hK => ?_)
  go_simp
  refine (subset_any A1 A2 c1 c2 l1 l2 _ HR1_36.out HR2_36.out (by omega) (by omega) false ⟨(fun h => by cases h), fun h => absurd h HV2.out⟩).mono ?_
  rintro e w37 ⟨rfl, hb⟩
  have hbc := hb
  have HB38 := Lib.hid (below_then HB36.out hbc (Nat.le_refl _))
  have HR0_38 := Lib.hid ((HR0_36.out.below hbc).lt)
  have HR1_38 := Lib.hid ((HR1_36.out.below hbc).lt)
  have HR2_38 := Lib.hid ((HR2_36.out.below hbc).lt)
  have K0_38 := Lib.hid (K0_36.out.after hbc)
  have K1_38 := Lib.hid (K1_36.out.after hbc)
  have K2_38 := Lib.hid (K2_36.out.after hbc)
  have Rp1_38 := Lib.hid ((Rp1_36.out.below hbc).lt)
  have Rp2_38 := Lib.hid ((Rp2_36.out.below hbc).lt)
  have Rp3_38 := Lib.hid ((Rp3_36.out.below hbc).lt)
  have Rp4_38 := Lib.hid ((Rp4_36.out.below hbc).lt)
  have Rp5_38 := Lib.hid ((Rp5_36.out.below hbc).lt)
  have Rp6_38 := Lib.hid ((Rp6_36.out.below hbc).lt)
  have Rq1_38 := Lib.hid ((Rq1_36.out.below hbc).lt)
  have Rq2_38 := Lib.hid ((Rq2_36.out.below hbc).lt)
  clear hbc HB36 HR0_36 HR1_36 HR2_36 K0_36 K1_36 K2_36 Rp1_36 Rp2_36 Rp3_36 Rp4_36 Rp5_36 Rp6_36 Rq1_36 Rq2_36 hb
  refine hK.out _ _ ⟨HB38.out, K0_38.out, K1_38.out, K2_38.out⟩ ?_
  clear hK K
  try simp only [Act.put, List.setIfInBounds_toArray, List.set_cons_zero, List.set_cons_succ]
  repeat (first
    | (refine wpTr_fskip (by simp only [List.getElem?_toArray, List.getElem?_cons_zero, List.getElem?_cons_succ]; rfl) (by rfl) ?_
       simp only [Act.put, List.setIfInBounds_toArray, List.set_cons_zero, List.set_cons_succ])
    | (refine wpTr_float (v := ?_) (by simp only [List.getElem?_toArray, List.getElem?_cons_zero, List.getElem?_cons_succ]; rfl) (by rfl) (fun w' hS => ?_) ?_
       rotate_left
       (obtain ⟨hSb, hSb0, hSb1, hSb2⟩ := hS; have eSb0 := hSb0.cell 0; have lSb0 := hSb0.lt; simp at eSb0; have eSb1 := hSb1.cell 0; have lSb1 := hSb1.lt; simp at eSb1; have eSb2 := hSb2.cell 0; have lSb2 := hSb2.lt; simp at eSb2; go_simp; first | done | rfl)
       simp only [Act.put, List.setIfInBounds_toArray, List.set_cons_zero, List.set_cons_succ]))
  refine wpTr_one ?_
  refine wpTr_skip (by simp only [List.getElem?_toArray, List.getElem?_cons_zero, List.getElem?_cons_succ]; rfl) (by rfl) ?_
  try simp only [Act.put, List.setIfInBounds_toArray, List.set_cons_zero, List.set_cons_succ]
  repeat (first
    | (refine wpTr_fskip (by simp only [List.getElem?_toArray, List.getElem?_cons_zero, List.getElem?_cons_succ]; rfl) (by rfl) ?_
       simp only [Act.put, List.setIfInBounds_toArray, List.set_cons_zero, List.set_cons_succ])
    | (refine wpTr_float (v := ?_) (by simp only [List.getElem?_toArray, List.getElem?_cons_zero, List.getElem?_cons_succ]; rfl) (by rfl) (fun w' hS => ?_) ?_
       rotate_left
       (obtain ⟨hSb, hSb0, hSb1, hSb2⟩ := hS; have eSb0 := hSb0.cell 0; have lSb0 := hSb0.lt; simp at eSb0; have eSb1 := hSb1.cell 0; have lSb1 := hSb1.lt; simp at eSb1; have eSb2 := hSb2.cell 0; have lSb2 := hSb2.lt; simp at eSb2; go_simp; first | done | rfl)
       simp only [Act.put, List.setIfInBounds_toArray, List.set_cons_zero, List.set_cons_succ]))
  refine wpTr_one ?_
  refine stepTr_K (by simp only [List.getElem?_toArray, List.getElem?_cons_zero, List.getElem?_cons_succ]; rfl) (by rfl) (fun K hK => ?_)
  go_simp
  refine (count_any A0 c0 l0 _ HR0_38.out (by omega) Na HCA.out).mono ?_
  rintro e w39 ⟨rfl, hb⟩
  have hbc := hb
  have HB40 := Lib.hid (below_then HB38.out hbc (Nat.le_refl _))
  have HR0_40 := Lib.hid ((HR0_38.out.below hbc).lt)
  have HR1_40 := Lib.hid ((HR1_38.out.below hbc).lt)
  have HR2_40 := Lib.hid ((HR2_38.out.below hbc).lt)
  have K0_40 := Lib.hid (K0_38.out.after hbc)
  have K1_40 := Lib.hid (K1_38.out.after hbc)
  have K2_40 := Lib.hid (K2_38.out.after hbc)
  have Rp1_40 := Lib.hid ((Rp1_38.out.below hbc).lt)
  have Rp2_40 := Lib.hid ((Rp2_38.out.below hbc).lt)
  have Rp3_40 := Lib.hid ((Rp3_38.out.below hbc).lt)
  have Rp4_40 := Lib.hid ((Rp4_38.out.below hbc).lt)
  have Rp5_40 := Lib.hid ((Rp5_38.out.below hbc).lt)
  have Rp6_40 := Lib.hid ((Rp6_38.out.below hbc).lt)
  have Rq1_40 := Lib.hid ((Rq1_38.out.below hbc).lt)
  have Rq2_40 := Lib.hid ((Rq2_38.out.below hbc).lt)
  clear hbc HB38 HR0_38 HR1_38 HR2_38 K0_38 K1_38 K2_38 Rp1_38 Rp2_38 Rp3_38 Rp4_38 Rp5_38 Rp6_38 Rq1_38 Rq2_38 hb
  refine hK.out _ _ ⟨HB40.out, K0_40.out, K1_40.out, K2_40.out⟩ ?_
  clear hK K
  try simp only [Act.put, List.setIfInBounds_toArray, List.set_cons_zero, List.set_cons_succ]
  refine wpTr_one ?_
  refine stepTr_K (by simp only [List.getElem?_toArray, List.getElem?_cons_zero, List.getElem?_cons_succ]; rfl) (by rfl) (fun K hK => ?_)
  go_simp
  refine (count_any A1 c1 l1 _ HR1_40.out (by omega) Nb HCB.out).mono ?_
  rintro e w41 ⟨rfl, hb⟩
  have hbc := hb
  have HB42 := Lib.hid (below_then HB40.out hbc (Nat.le_refl _))
  have HR0_42 := Lib.hid ((HR0_40.out.below hbc).lt)
  have HR1_42 := Lib.hid ((HR1_40.out.below hbc).lt)
  have HR2_42 := Lib.hid ((HR2_40.out.below hbc).lt)
  have K0_42 := Lib.hid (K0_40.out.after hbc)
  have K1_42 := Lib.hid (K1_40.out.after hbc)
  have K2_42 := Lib.hid (K2_40.out.after hbc)
  have Rp1_42 := Lib.hid ((Rp1_40.out.below hbc).lt)
  have Rp2_42 := Lib.hid ((Rp2_40.out.below hbc).lt)
  have Rp3_42 := Lib.hid ((Rp3_40.out.below hbc).lt)
  have Rp4_42 := Lib.hid ((Rp4_40.out.below hbc).lt)
  have Rp5_42 := Lib.hid ((Rp5_40.out.below hbc).lt)
  have Rp6_42 := Lib.hid ((Rp6_40.out.below hbc).lt)
  have Rq1_42 := Lib.hid ((Rq1_40.out.below hbc).lt)
  have Rq2_42 := Lib.hid ((Rq2_40.out.below hbc).lt)
  clear hbc HB40 HR0_40 HR1_40 HR2_40 K0_40 K1_40 K2_40 Rp1_40 Rp2_40 Rp3_40 Rp4_40 Rp5_40 Rp6_40 Rq1_40 Rq2_40 hb
  refine hK.out _ _ ⟨HB42.out, K0_42.out, K1_42.out, K2_42.out⟩ ?_
  clear hK K
  try simp only [Act.put, List.setIfInBounds_toArray, List.set_cons_zero, List.set_cons_succ]
  repeat (first
    | (refine wpTr_fskip (by simp only [List.getElem?_toArray, List.getElem?_cons_zero, List.getElem?_cons_succ]; rfl) (by rfl) ?_
       simp only [Act.put, List.setIfInBounds_toArray, List.set_cons_zero, List.set_cons_succ])
    | (refine wpTr_float (v := ?_) (by simp only [List.getElem?_toArray, List.getElem?_cons_zero, List.getElem?_cons_succ]; rfl) (by rfl) (fun w' hS => ?_) ?_
       rotate_left
       (obtain ⟨hSb, hSb0, hSb1, hSb2⟩ := hS; have eSb0 := hSb0.cell 0; have lSb0 := hSb0.lt; simp at eSb0; have eSb1 := hSb1.cell 0; have lSb1 := hSb1.lt; simp at eSb1; have eSb2 := hSb2.cell 0; have lSb2 := hSb2.lt; simp at eSb2; go_simp; first | done | rfl)
       simp only [Act.put, List.setIfInBounds_toArray, List.set_cons_zero, List.set_cons_succ]))
  refine wpTr_done ?_
  go_wp2_with fail
  have k1 : IntKind.i64.wrap (Na + Nb) = Na + Nb := IntWalk.i64_in _ (by omega)
  refine wp_region_tree (fun w' => Below w.heap.size w w' ∧ Blk w' b0 24 #[.slice A0 l0.length c0] ∧ Blk w' b1 24 #[.slice A1 l1.length c1] ∧ Blk w' b2 24 #[.slice A2 l2.length c2]) (.float 0 (.float 1 (.float 3 (.one 2 (.one 4 (.float 5 (.float 6 (.float 7 (.float 8 (.one 9 (.one 10 (.float 11 (.float 12 (.float 13 (.float 15 (.float 18 (.float 19 (.float 22 (.float 23 (.one 14 (.one 16 (.float 17 (.one 20 (.one 21 (.one 24 (.one 25 (.float 26 (.float 27 (.float 28 (.float 29 (.one 30 (.float 31 (.float 32 .done))))))))))))))))))))))))))))))))) (by kernel_rfl) (by kernel_rfl) (fun _ _ d _ _ h => by cases d <;> exact h) ⟨HB42.out.drew, K0_42.out.drew, K1_42.out.drew, K2_42.out.drew⟩ ?_
  obtain ⟨d43, hdr, hbd⟩ : ∃ d, d = w41.drew ∧ Below w41.heap.size w41 d := ⟨_, rfl, (Below.refl _ _).drew⟩
  rw [← hdr]
  clear hdr
  have hbc := hbd
  have HB44 := Lib.hid (below_then HB42.out hbc (Nat.le_refl _))
  have HR0_44 := Lib.hid ((HR0_42.out.below hbc).lt)
  have HR1_44 := Lib.hid ((HR1_42.out.below hbc).lt)
  have HR2_44 := Lib.hid ((HR2_42.out.below hbc).lt)
  have K0_44 := Lib.hid (K0_42.out.after hbc)
  have K1_44 := Lib.hid (K1_42.out.after hbc)
  have K2_44 := Lib.hid (K2_42.out.after hbc)
  have Rp1_44 := Lib.hid ((Rp1_42.out.below hbc).lt)
  have Rp2_44 := Lib.hid ((Rp2_42.out.below hbc).lt)
  have Rp3_44 := Lib.hid ((Rp3_42.out.below hbc).lt)
  have Rp4_44 := Lib.hid ((Rp4_42.out.below hbc).lt)
  have Rp5_44 := Lib.hid ((Rp5_42.out.below hbc).lt)
  have Rp6_44 := Lib.hid ((Rp6_42.out.below hbc).lt)
  have Rq1_44 := Lib.hid ((Rq1_42.out.below hbc).lt)
  have Rq2_44 := Lib.hid ((Rq2_42.out.below hbc).lt)
  clear hbc HB42 HR0_42 HR1_42 HR2_42 K0_42 K1_42 K2_42 Rp1_42 Rp2_42 Rp3_42 Rp4_42 Rp5_42 Rp6_42 Rq1_42 Rq2_42 hbd
  repeat (first
    | (refine wpTr_fskip (by simp only [List.getElem?_toArray, List.getElem?_cons_zero, List.getElem?_cons_succ]; rfl) (by rfl) ?_
       simp only [Act.put, List.setIfInBounds_toArray, List.set_cons_zero, List.set_cons_succ])
    | (refine wpTr_float (v := ?_) (by simp only [List.getElem?_toArray, List.getElem?_cons_zero, List.getElem?_cons_succ]; rfl) (by rfl) (fun w' hS => ?_) ?_
       rotate_left
       (obtain ⟨hSb, hSb0, hSb1, hSb2⟩ := hS; have eSb0 := hSb0.cell 0; have lSb0 := hSb0.lt; simp at eSb0; have eSb1 := hSb1.cell 0; have lSb1 := hSb1.lt; simp at eSb1; have eSb2 := hSb2.cell 0; have lSb2 := hSb2.lt; simp at eSb2; go_simp; first | done | rfl)
       simp only [Act.put, List.setIfInBounds_toArray, List.set_cons_zero, List.set_cons_succ]))
  refine wpTr_one ?_
  refine stepTr_K (by simp only [List.getElem?_toArray, List.getElem?_cons_zero, List.getElem?_cons_succ]; rfl) (by rfl) (fun K hK => ?_)
  go_simp
  refine (and_any A0 A1 c0 c1 l0 l1 _ HR0_44.out HR1_44.out (by omega) (by omega)).mono ?_
  rintro e w45 ⟨At1, ct1, rt1, rfl, hc, hh, hr, hb⟩
  have hbc := hb
  have HB46 := Lib.hid (below_then HB44.out hbc (Nat.le_refl _))
  have HR0_46 := Lib.hid ((HR0_44.out.below hbc).lt)
  have HR1_46 := Lib.hid ((HR1_44.out.below hbc).lt)
  have HR2_46 := Lib.hid ((HR2_44.out.below hbc).lt)
  have K0_46 := Lib.hid (K0_44.out.after hbc)
  have K1_46 := Lib.hid (K1_44.out.after hbc)
  have K2_46 := Lib.hid (K2_44.out.after hbc)
  have Rp1_46 := Lib.hid ((Rp1_44.out.below hbc).lt)
  have Rp2_46 := Lib.hid ((Rp2_44.out.below hbc).lt)
  have Rp3_46 := Lib.hid ((Rp3_44.out.below hbc).lt)
  have Rp4_46 := Lib.hid ((Rp4_44.out.below hbc).lt)
  have Rp5_46 := Lib.hid ((Rp5_44.out.below hbc).lt)
  have Rp6_46 := Lib.hid ((Rp6_44.out.below hbc).lt)
  have Rq1_46 := Lib.hid ((Rq1_44.out.below hbc).lt)
  have Rq2_46 := Lib.hid ((Rq2_44.out.below hbc).lt)
  have Rt1_46 := Lib.hid (hr)
  clear hbc HB44 HR0_44 HR1_44 HR2_44 K0_44 K1_44 K2_44 Rp1_44 Rp2_44 Rp3_44 Rp4_44 Rp5_44 Rp6_44 Rq1_44 Rq2_44 hb hr
  have Ct1 := Lib.hid hc
  have Mt1 := Lib.hid hh
  clear hc hh
  refine hK.out _ _ ⟨HB46.out, K0_46.out, K1_46.out, K2_46.out⟩ ?_
  clear hK K
  try simp only [Act.put, List.setIfInBounds_toArray, List.set_cons_zero, List.set_cons_succ]
  refine wpTr_one ?_
  refine stepTr_K (by simp only [List.getElem?_toArray, List.getElem?_cons_zero, List.getElem?_cons_succ]; rfl) (by rfl) (fun K hK => ?_)
  go_simp
  refine (subset_any At1 A0 ct1 c0 rt1 l0 _ Rt1_46.out HR0_46.out (by have := can_len Ct1.out; omega) (by omega) true ⟨fun _ x hx => ((Mt1.out x).1 hx).1, fun _ => rfl⟩).mono ?_
  rintro e w47 ⟨rfl, hb⟩
  have hbc := hb
  have HB48 := Lib.hid (below_then HB46.out hbc (Nat.le_refl _))
  have HR0_48 := Lib.hid ((HR0_46.out.below hbc).lt)
  have HR1_48 := Lib.hid ((HR1_46.out.below hbc).lt)
  have HR2_48 := Lib.hid ((HR2_46.out.below hbc).lt)
  have K0_48 := Lib.hid (K0_46.out.after hbc)
  have K1_48 := Lib.hid (K1_46.out.after hbc)
  have K2_48 := Lib.hid (K2_46.out.after hbc)
  have Rp1_48 := Lib.hid ((Rp1_46.out.below hbc).lt)
  have Rp2_48 := Lib.hid ((Rp2_46.out.below hbc).lt)
  have Rp3_48 := Lib.hid ((Rp3_46.out.below hbc).lt)
  have Rp4_48 := Lib.hid ((Rp4_46.out.below hbc).lt)
  have Rp5_48 := Lib.hid ((Rp5_46.out.below hbc).lt)
  have Rp6_48 := Lib.hid ((Rp6_46.out.below hbc).lt)
  have Rq1_48 := Lib.hid ((Rq1_46.out.below hbc).lt)
  have Rq2_48 := Lib.hid ((Rq2_46.out.below hbc).lt)
  have Rt1_48 := Lib.hid ((Rt1_46.out.below hbc).lt)
  clear hbc HB46 HR0_46 HR1_46 HR2_46 K0_46 K1_46 K2_46 Rp1_46 Rp2_46 Rp3_46 Rp4_46 Rp5_46 Rp6_46 Rq1_46 Rq2_46 Rt1_46 hb
  refine hK.out _ _ ⟨HB48.out, K0_48.out, K1_48.out, K2_48.out⟩ ?_
  clear hK K
  try simp only [Act.put, List.setIfInBounds_toArray, List.set_cons_zero, List.set_cons_succ]
  repeat (first
    | (refine wpTr_fskip (by simp only [List.getElem?_toArray, List.getElem?_cons_zero, List.getElem?_cons_succ]; rfl) (by rfl) ?_
       simp only [Act.put, List.setIfInBounds_toArray, List.set_cons_zero, List.set_cons_succ])
    | (refine wpTr_float (v := ?_) (by simp only [List.getElem?_toArray, List.getElem?_cons_zero, List.getElem?_cons_succ]; rfl) (by rfl) (fun w' hS => ?_) ?_
       rotate_left
       (obtain ⟨hSb, hSb0, hSb1, hSb2⟩ := hS; have eSb0 := hSb0.cell 0; have lSb0 := hSb0.lt; simp at eSb0; have eSb1 := hSb1.cell 0; have lSb1 := hSb1.lt; simp at eSb1; have eSb2 := hSb2.cell 0; have lSb2 := hSb2.lt; simp at eSb2; go_simp; first | done | rfl)
       simp only [Act.put, List.setIfInBounds_toArray, List.set_cons_zero, List.set_cons_succ]))
  refine wpTr_one ?_
  refine stepTr_K (by simp only [List.getElem?_toArray, List.getElem?_cons_zero, List.getElem?_cons_succ]; rfl) (by rfl) (fun K hK => ?_)
  go_simp
  refine (or_any A0 A1 c0 c1 l0 l1 _ HR0_48.out HR1_48.out (by omega) (by omega)).mono ?_
  rintro e w49 ⟨At2, ct2, rt2, rfl, hc, hh, hr, hb⟩
  have hbc := hb
  have HB50 := Lib.hid (below_then HB48.out hbc (Nat.le_refl _))
  have HR0_50 := Lib.hid ((HR0_48.out.below hbc).lt)
  have HR1_50 := Lib.hid ((HR1_48.out.below hbc).lt)
  have HR2_50 := Lib.hid ((HR2_48.out.below hbc).lt)
  have K0_50 := Lib.hid (K0_48.out.after hbc)
  have K1_50 := Lib.hid (K1_48.out.after hbc)
  have K2_50 := Lib.hid (K2_48.out.after hbc)
  have Rp1_50 := Lib.hid ((Rp1_48.out.below hbc).lt)
  have Rp2_50 := Lib.hid ((Rp2_48.out.below hbc).lt)
  have Rp3_50 := Lib.hid ((Rp3_48.out.below hbc).lt)
  have Rp4_50 := Lib.hid ((Rp4_48.out.below hbc).lt)
  have Rp5_50 := Lib.hid ((Rp5_48.out.below hbc).lt)
  have Rp6_50 := Lib.hid ((Rp6_48.out.below hbc).lt)
  have Rq1_50 := Lib.hid ((Rq1_48.out.below hbc).lt)
  have Rq2_50 := Lib.hid ((Rq2_48.out.below hbc).lt)
  have Rt1_50 := Lib.hid ((Rt1_48.out.below hbc).lt)
  have Rt2_50 := Lib.hid (hr)
  clear hbc HB48 HR0_48 HR1_48 HR2_48 K0_48 K1_48 K2_48 Rp1_48 Rp2_48 Rp3_48 Rp4_48 Rp5_48 Rp6_48 Rq1_48 Rq2_48 Rt1_48 hb hr
  have Ct2 := Lib.hid hc
  have Mt2 := Lib.hid hh
  clear hc hh
  refine hK.out _ _ ⟨HB50.out, K0_50.out, K1_50.out, K2_50.out⟩ ?_
  clear hK K
  try simp only [Act.put, List.setIfInBounds_toArray, List.set_cons_zero, List.set_cons_succ]
  refine wpTr_one ?_
  refine stepTr_K (by simp only [List.getElem?_toArray, List.getElem?_cons_zero, List.getElem?_cons_succ]; rfl) (by rfl) (fun K hK => ?_)
  go_simp
  refine (subset_any A0 At2 c0 ct2 l0 rt2 _ HR0_50.out Rt2_50.out (by omega) (by have := can_len Ct2.out; omega) true ⟨fun _ x hx => (Mt2.out x).2 (.inl hx), fun _ => rfl⟩).mono ?_
  rintro e w51 ⟨rfl, hb⟩
  have hbc := hb
  have HB52 := Lib.hid (below_then HB50.out hbc (Nat.le_refl _))
  have HR0_52 := Lib.hid ((HR0_50.out.below hbc).lt)
  have HR1_52 := Lib.hid ((HR1_50.out.below hbc).lt)
  have HR2_52 := Lib.hid ((HR2_50.out.below hbc).lt)
  have K0_52 := Lib.hid (K0_50.out.after hbc)
  have K1_52 := Lib.hid (K1_50.out.after hbc)
  have K2_52 := Lib.hid (K2_50.out.after hbc)
  have Rp1_52 := Lib.hid ((Rp1_50.out.below hbc).lt)
  have Rp2_52 := Lib.hid ((Rp2_50.out.below hbc).lt)
  have Rp3_52 := Lib.hid ((Rp3_50.out.below hbc).lt)
  have Rp4_52 := Lib.hid ((Rp4_50.out.below hbc).lt)
  have Rp5_52 := Lib.hid ((Rp5_50.out.below hbc).lt)
  have Rp6_52 := Lib.hid ((Rp6_50.out.below hbc).lt)
  have Rq1_52 := Lib.hid ((Rq1_50.out.below hbc).lt)
  have Rq2_52 := Lib.hid ((Rq2_50.out.below hbc).lt)
  have Rt1_52 := Lib.hid ((Rt1_50.out.below hbc).lt)
  have Rt2_52 := Lib.hid ((Rt2_50.out.below hbc).lt)
  clear hbc HB50 HR0_50 HR1_50 HR2_50 K0_50 K1_50 K2_50 Rp1_50 Rp2_50 Rp3_50 Rp4_50 Rp5_50 Rp6_50 Rq1_50 Rq2_50 Rt1_50 Rt2_50 hb
  refine hK.out _ _ ⟨HB52.out, K0_52.out, K1_52.out, K2_52.out⟩ ?_
  clear hK K
  try simp only [Act.put, List.setIfInBounds_toArray, List.set_cons_zero, List.set_cons_succ]
  repeat (first
    | (refine wpTr_fskip (by simp only [List.getElem?_toArray, List.getElem?_cons_zero, List.getElem?_cons_succ]; rfl) (by rfl) ?_
       simp only [Act.put, List.setIfInBounds_toArray, List.set_cons_zero, List.set_cons_succ])
    | (refine wpTr_float (v := ?_) (by simp only [List.getElem?_toArray, List.getElem?_cons_zero, List.getElem?_cons_succ]; rfl) (by rfl) (fun w' hS => ?_) ?_
       rotate_left
       (obtain ⟨hSb, hSb0, hSb1, hSb2⟩ := hS; have eSb0 := hSb0.cell 0; have lSb0 := hSb0.lt; simp at eSb0; have eSb1 := hSb1.cell 0; have lSb1 := hSb1.lt; simp at eSb1; have eSb2 := hSb2.cell 0; have lSb2 := hSb2.lt; simp at eSb2; go_simp; first | done | rfl)
       simp only [Act.put, List.setIfInBounds_toArray, List.set_cons_zero, List.set_cons_succ]))
  refine wpTr_one ?_
  refine stepTr_K (by simp only [List.getElem?_toArray, List.getElem?_cons_zero, List.getElem?_cons_succ]; rfl) (by rfl) (fun K hK => ?_)
  go_simp
  refine (count_any A0 c0 l0 _ HR0_52.out (by omega) Na HCA.out).mono ?_
  rintro e w53 ⟨rfl, hb⟩
  have hbc := hb
  have HB54 := Lib.hid (below_then HB52.out hbc (Nat.le_refl _))
  have HR0_54 := Lib.hid ((HR0_52.out.below hbc).lt)
  have HR1_54 := Lib.hid ((HR1_52.out.below hbc).lt)
  have HR2_54 := Lib.hid ((HR2_52.out.below hbc).lt)
  have K0_54 := Lib.hid (K0_52.out.after hbc)
  have K1_54 := Lib.hid (K1_52.out.after hbc)
  have K2_54 := Lib.hid (K2_52.out.after hbc)
  have Rp1_54 := Lib.hid ((Rp1_52.out.below hbc).lt)
  have Rp2_54 := Lib.hid ((Rp2_52.out.below hbc).lt)
  have Rp3_54 := Lib.hid ((Rp3_52.out.below hbc).lt)
  have Rp4_54 := Lib.hid ((Rp4_52.out.below hbc).lt)
  have Rp5_54 := Lib.hid ((Rp5_52.out.below hbc).lt)
  have Rp6_54 := Lib.hid ((Rp6_52.out.below hbc).lt)
  have Rq1_54 := Lib.hid ((Rq1_52.out.below hbc).lt)
  have Rq2_54 := Lib.hid ((Rq2_52.out.below hbc).lt)
  have Rt1_54 := Lib.hid ((Rt1_52.out.below hbc).lt)
  have Rt2_54 := Lib.hid ((Rt2_52.out.below hbc).lt)
  clear hbc HB52 HR0_52 HR1_52 HR2_52 K0_52 K1_52 K2_52 Rp1_52 Rp2_52 Rp3_52 Rp4_52 Rp5_52 Rp6_52 Rq1_52 Rq2_52 Rt1_52 Rt2_52 hb
  refine hK.out _ _ ⟨HB54.out, K0_54.out, K1_54.out, K2_54.out⟩ ?_
  clear hK K
  try simp only [Act.put, List.setIfInBounds_toArray, List.set_cons_zero, List.set_cons_succ]
  refine wpTr_one ?_
  refine stepTr_K (by simp only [List.getElem?_toArray, List.getElem?_cons_zero, List.getElem?_cons_succ]; rfl) (by rfl) (fun K hK => ?_)
  go_simp
  refine (count_any A1 c1 l1 _ HR1_54.out (by omega) Nb HCB.out).mono ?_
  rintro e w55 ⟨rfl, hb⟩
  have hbc := hb
  have HB56 := Lib.hid (below_then HB54.out hbc (Nat.le_refl _))
  have HR0_56 := Lib.hid ((HR0_54.out.below hbc).lt)
  have HR1_56 := Lib.hid ((HR1_54.out.below hbc).lt)
  have HR2_56 := Lib.hid ((HR2_54.out.below hbc).lt)
  have K0_56 := Lib.hid (K0_54.out.after hbc)
  have K1_56 := Lib.hid (K1_54.out.after hbc)
  have K2_56 := Lib.hid (K2_54.out.after hbc)
  have Rp1_56 := Lib.hid ((Rp1_54.out.below hbc).lt)
  have Rp2_56 := Lib.hid ((Rp2_54.out.below hbc).lt)
  have Rp3_56 := Lib.hid ((Rp3_54.out.below hbc).lt)
  have Rp4_56 := Lib.hid ((Rp4_54.out.below hbc).lt)
  have Rp5_56 := Lib.hid ((Rp5_54.out.below hbc).lt)
  have Rp6_56 := Lib.hid ((Rp6_54.out.below hbc).lt)
  have Rq1_56 := Lib.hid ((Rq1_54.out.below hbc).lt)
  have Rq2_56 := Lib.hid ((Rq2_54.out.below hbc).lt)
  have Rt1_56 := Lib.hid ((Rt1_54.out.below hbc).lt)
  have Rt2_56 := Lib.hid ((Rt2_54.out.below hbc).lt)
  clear hbc HB54 HR0_54 HR1_54 HR2_54 K0_54 K1_54 K2_54 Rp1_54 Rp2_54 Rp3_54 Rp4_54 Rp5_54 Rp6_54 Rq1_54 Rq2_54 Rt1_54 Rt2_54 hb
  refine hK.out _ _ ⟨HB56.out, K0_56.out, K1_56.out, K2_56.out⟩ ?_
  clear hK K
  try simp only [Act.put, List.setIfInBounds_toArray, List.set_cons_zero, List.set_cons_succ]
  repeat (first
    | (refine wpTr_fskip (by simp only [List.getElem?_toArray, List.getElem?_cons_zero, List.getElem?_cons_succ]; rfl) (by rfl) ?_
       simp only [Act.put, List.setIfInBounds_toArray, List.set_cons_zero, List.set_cons_succ])
    | (refine wpTr_float (v := ?_) (by simp only [List.getElem?_toArray, List.getElem?_cons_zero, List.getElem?_cons_succ]; rfl) (by rfl) (fun w' hS => ?_) ?_
       rotate_left
       (obtain ⟨hSb, hSb0, hSb1, hSb2⟩ := hS; have eSb0 := hSb0.cell 0; have lSb0 := hSb0.lt; simp at eSb0; have eSb1 := hSb1.cell 0; have lSb1 := hSb1.lt; simp at eSb1; have eSb2 := hSb2.cell 0; have lSb2 := hSb2.lt; simp at eSb2; go_simp; first | done | rfl)
       simp only [Act.put, List.setIfInBounds_toArray, List.set_cons_zero, List.set_cons_succ]))
  refine wpTr_one ?_
  refine stepTr_K (by simp only [List.getElem?_toArray, List.getElem?_cons_zero, List.getElem?_cons_succ]; rfl) (by rfl) (fun K hK => ?_)
  go_simp
  refine (or_any A0 A1 c0 c1 l0 l1 _ HR0_56.out HR1_56.out (by omega) (by omega)).mono ?_
  rintro e w57 ⟨At3, ct3, rt3, rfl, hc, hh, hr, hb⟩
  have hbc := hb
  have HB58 := Lib.hid (below_then HB56.out hbc (Nat.le_refl _))
  have HR0_58 := Lib.hid ((HR0_56.out.below hbc).lt)
  have HR1_58 := Lib.hid ((HR1_56.out.below hbc).lt)
  have HR2_58 := Lib.hid ((HR2_56.out.below hbc).lt)
  have K0_58 := Lib.hid (K0_56.out.after hbc)
  have K1_58 := Lib.hid (K1_56.out.after hbc)
  have K2_58 := Lib.hid (K2_56.out.after hbc)
  have Rp1_58 := Lib.hid ((Rp1_56.out.below hbc).lt)
  have Rp2_58 := Lib.hid ((Rp2_56.out.below hbc).lt)
  have Rp3_58 := Lib.hid ((Rp3_56.out.below hbc).lt)
  have Rp4_58 := Lib.hid ((Rp4_56.out.below hbc).lt)
  have Rp5_58 := Lib.hid ((Rp5_56.out.below hbc).lt)
  have Rp6_58 := Lib.hid ((Rp6_56.out.below hbc).lt)
  have Rq1_58 := Lib.hid ((Rq1_56.out.below hbc).lt)
  have Rq2_58 := Lib.hid ((Rq2_56.out.below hbc).lt)
  have Rt1_58 := Lib.hid ((Rt1_56.out.below hbc).lt)
  have Rt2_58 := Lib.hid ((Rt2_56.out.below hbc).lt)
  have Rt3_58 := Lib.hid (hr)
  clear hbc HB56 HR0_56 HR1_56 HR2_56 K0_56 K1_56 K2_56 Rp1_56 Rp2_56 Rp3_56 Rp4_56 Rp5_56 Rp6_56 Rq1_56 Rq2_56 Rt1_56 Rt2_56 hb hr
  have Ct3 := Lib.hid hc
  have Mt3 := Lib.hid hh
  clear hc hh
  obtain ⟨No, hNo⟩ : ∃ N, cardS rt3 = N := ⟨_, rfl⟩
  have hb3 := cardS_bd rt3
  rw [hNo] at hb3
  have HNO := Lib.hid hNo
  obtain ⟨c1', c2'⟩ := hb3
  clear hNo
  refine hK.out _ _ ⟨HB58.out, K0_58.out, K1_58.out, K2_58.out⟩ ?_
  clear hK K
  try simp only [Act.put, List.setIfInBounds_toArray, List.set_cons_zero, List.set_cons_succ]
  refine wpTr_one ?_
  refine stepTr_K (by simp only [List.getElem?_toArray, List.getElem?_cons_zero, List.getElem?_cons_succ]; rfl) (by rfl) (fun K hK => ?_)
  go_simp
  refine (count_any At3 ct3 rt3 _ Rt3_58.out (by have := can_len Ct3.out; omega) No (fun r h1 h2 => (count_card h1 h2).trans HNO.out)).mono ?_
  rintro e w59 ⟨rfl, hb⟩
  have hbc := hb
  have HB60 := Lib.hid (below_then HB58.out hbc (Nat.le_refl _))
  have HR0_60 := Lib.hid ((HR0_58.out.below hbc).lt)
  have HR1_60 := Lib.hid ((HR1_58.out.below hbc).lt)
  have HR2_60 := Lib.hid ((HR2_58.out.below hbc).lt)
  have K0_60 := Lib.hid (K0_58.out.after hbc)
  have K1_60 := Lib.hid (K1_58.out.after hbc)
  have K2_60 := Lib.hid (K2_58.out.after hbc)
  have Rp1_60 := Lib.hid ((Rp1_58.out.below hbc).lt)
  have Rp2_60 := Lib.hid ((Rp2_58.out.below hbc).lt)
  have Rp3_60 := Lib.hid ((Rp3_58.out.below hbc).lt)
  have Rp4_60 := Lib.hid ((Rp4_58.out.below hbc).lt)
  have Rp5_60 := Lib.hid ((Rp5_58.out.below hbc).lt)
  have Rp6_60 := Lib.hid ((Rp6_58.out.below hbc).lt)
  have Rq1_60 := Lib.hid ((Rq1_58.out.below hbc).lt)
  have Rq2_60 := Lib.hid ((Rq2_58.out.below hbc).lt)
  have Rt1_60 := Lib.hid ((Rt1_58.out.below hbc).lt)
  have Rt2_60 := Lib.hid ((Rt2_58.out.below hbc).lt)
  have Rt3_60 := Lib.hid ((Rt3_58.out.below hbc).lt)
  clear hbc HB58 HR0_58 HR1_58 HR2_58 K0_58 K1_58 K2_58 Rp1_58 Rp2_58 Rp3_58 Rp4_58 Rp5_58 Rp6_58 Rq1_58 Rq2_58 Rt1_58 Rt2_58 Rt3_58 hb
  refine hK.out _ _ ⟨HB60.out, K0_60.out, K1_60.out, K2_60.out⟩ ?_
  clear hK K
  try simp only [Act.put, List.setIfInBounds_toArray, List.set_cons_zero, List.set_cons_succ]
  refine wpTr_one ?_
  refine stepTr_K (by simp only [List.getElem?_toArray, List.getElem?_cons_zero, List.getElem?_cons_succ]; rfl) (by rfl) (fun K hK => ?_)
  go_simp
  refine (and_any A0 A1 c0 c1 l0 l1 _ HR0_60.out HR1_60.out (by omega) (by omega)).mono ?_
  rintro e w61 ⟨At4, ct4, rt4, rfl, hc, hh, hr, hb⟩
  have hbc := hb
  have HB62 := Lib.hid (below_then HB60.out hbc (Nat.le_refl _))
  have HR0_62 := Lib.hid ((HR0_60.out.below hbc).lt)
  have HR1_62 := Lib.hid ((HR1_60.out.below hbc).lt)
  have HR2_62 := Lib.hid ((HR2_60.out.below hbc).lt)
  have K0_62 := Lib.hid (K0_60.out.after hbc)
  have K1_62 := Lib.hid (K1_60.out.after hbc)
  have K2_62 := Lib.hid (K2_60.out.after hbc)
  have Rp1_62 := Lib.hid ((Rp1_60.out.below hbc).lt)
  have Rp2_62 := Lib.hid ((Rp2_60.out.below hbc).lt)
  have Rp3_62 := Lib.hid ((Rp3_60.out.below hbc).lt)
  have Rp4_62 := Lib.hid ((Rp4_60.out.below hbc).lt)
  have Rp5_62 := Lib.hid ((Rp5_60.out.below hbc).lt)
  have Rp6_62 := Lib.hid ((Rp6_60.out.below hbc).lt)
  have Rq1_62 := Lib.hid ((Rq1_60.out.below hbc).lt)
  have Rq2_62 := Lib.hid ((Rq2_60.out.below hbc).lt)
  have Rt1_62 := Lib.hid ((Rt1_60.out.below hbc).lt)
  have Rt2_62 := Lib.hid ((Rt2_60.out.below hbc).lt)
  have Rt3_62 := Lib.hid ((Rt3_60.out.below hbc).lt)
  have Rt4_62 := Lib.hid (hr)
  clear hbc HB60 HR0_60 HR1_60 HR2_60 K0_60 K1_60 K2_60 Rp1_60 Rp2_60 Rp3_60 Rp4_60 Rp5_60 Rp6_60 Rq1_60 Rq2_60 Rt1_60 Rt2_60 Rt3_60 hb hr
  have Ct4 := Lib.hid hc
  have Mt4 := Lib.hid hh
  clear hc hh
  obtain ⟨Nn, hNn⟩ : ∃ N, cardS rt4 = N := ⟨_, rfl⟩
  have hb4 := cardS_bd rt4
  rw [hNn] at hb4
  have HNN := Lib.hid hNn
  have hsum : (Na + Nb == No + Nn) = true := by
    have := cardS_oa Mt3.out Mt4.out
    rw [HNA.out, HNB.out, HNO.out, hNn] at this
    simp [this]
  obtain ⟨d1, d2⟩ := hb4
  have k2 : IntKind.i64.wrap (No + Nn) = No + Nn := IntWalk.i64_in _ (by omega)
  clear hNn
  refine hK.out _ _ ⟨HB62.out, K0_62.out, K1_62.out, K2_62.out⟩ ?_
  clear hK K
  try simp only [Act.put, List.setIfInBounds_toArray, List.set_cons_zero, List.set_cons_succ]
  refine wpTr_one ?_
  refine stepTr_K (by simp only [List.getElem?_toArray, List.getElem?_cons_zero, List.getElem?_cons_succ]; rfl) (by rfl) (fun K hK => ?_)
  go_simp
  refine (count_any At4 ct4 rt4 _ Rt4_62.out (by have := can_len Ct4.out; omega) Nn (fun r h1 h2 => (count_card h1 h2).trans HNN.out)).mono ?_
  rintro e w63 ⟨rfl, hb⟩
  have hbc := hb
  have HB64 := Lib.hid (below_then HB62.out hbc (Nat.le_refl _))
  have HR0_64 := Lib.hid ((HR0_62.out.below hbc).lt)
  have HR1_64 := Lib.hid ((HR1_62.out.below hbc).lt)
  have HR2_64 := Lib.hid ((HR2_62.out.below hbc).lt)
  have K0_64 := Lib.hid (K0_62.out.after hbc)
  have K1_64 := Lib.hid (K1_62.out.after hbc)
  have K2_64 := Lib.hid (K2_62.out.after hbc)
  have Rp1_64 := Lib.hid ((Rp1_62.out.below hbc).lt)
  have Rp2_64 := Lib.hid ((Rp2_62.out.below hbc).lt)
  have Rp3_64 := Lib.hid ((Rp3_62.out.below hbc).lt)
  have Rp4_64 := Lib.hid ((Rp4_62.out.below hbc).lt)
  have Rp5_64 := Lib.hid ((Rp5_62.out.below hbc).lt)
  have Rp6_64 := Lib.hid ((Rp6_62.out.below hbc).lt)
  have Rq1_64 := Lib.hid ((Rq1_62.out.below hbc).lt)
  have Rq2_64 := Lib.hid ((Rq2_62.out.below hbc).lt)
  have Rt1_64 := Lib.hid ((Rt1_62.out.below hbc).lt)
  have Rt2_64 := Lib.hid ((Rt2_62.out.below hbc).lt)
  have Rt3_64 := Lib.hid ((Rt3_62.out.below hbc).lt)
  have Rt4_64 := Lib.hid ((Rt4_62.out.below hbc).lt)
  clear hbc HB62 HR0_62 HR1_62 HR2_62 K0_62 K1_62 K2_62 Rp1_62 Rp2_62 Rp3_62 Rp4_62 Rp5_62 Rp6_62 Rq1_62 Rq2_62 Rt1_62 Rt2_62 Rt3_62 Rt4_62 hb
  refine hK.out _ _ ⟨HB64.out, K0_64.out, K1_64.out, K2_64.out⟩ ?_
  clear hK K
  try simp only [Act.put, List.setIfInBounds_toArray, List.set_cons_zero, List.set_cons_succ]
  repeat (first
    | (refine wpTr_fskip (by simp only [List.getElem?_toArray, List.getElem?_cons_zero, List.getElem?_cons_succ]; rfl) (by rfl) ?_
       simp only [Act.put, List.setIfInBounds_toArray, List.set_cons_zero, List.set_cons_succ])
    | (refine wpTr_float (v := ?_) (by simp only [List.getElem?_toArray, List.getElem?_cons_zero, List.getElem?_cons_succ]; rfl) (by rfl) (fun w' hS => ?_) ?_
       rotate_left
       (obtain ⟨hSb, hSb0, hSb1, hSb2⟩ := hS; have eSb0 := hSb0.cell 0; have lSb0 := hSb0.lt; simp at eSb0; have eSb1 := hSb1.cell 0; have lSb1 := hSb1.lt; simp at eSb1; have eSb2 := hSb2.cell 0; have lSb2 := hSb2.lt; simp at eSb2; go_simp; first | done | rfl)
       simp only [Act.put, List.setIfInBounds_toArray, List.set_cons_zero, List.set_cons_succ]))
  refine wpTr_one ?_
  refine stepTr_K (by simp only [List.getElem?_toArray, List.getElem?_cons_zero, List.getElem?_cons_succ]; rfl) (by rfl) (fun K hK => ?_)
  go_simp
  refine (alive_any _ (HD.out.below HB64.out) (HM.out.below HB64.out)).mono ?_
  rintro e w65 ⟨rfl, hb⟩
  have hbc := hb
  have HB66 := Lib.hid (below_then HB64.out hbc (Nat.le_refl _))
  have HR0_66 := Lib.hid ((HR0_64.out.below hbc).lt)
  have HR1_66 := Lib.hid ((HR1_64.out.below hbc).lt)
  have HR2_66 := Lib.hid ((HR2_64.out.below hbc).lt)
  have K0_66 := Lib.hid (K0_64.out.after hbc)
  have K1_66 := Lib.hid (K1_64.out.after hbc)
  have K2_66 := Lib.hid (K2_64.out.after hbc)
  have Rp1_66 := Lib.hid ((Rp1_64.out.below hbc).lt)
  have Rp2_66 := Lib.hid ((Rp2_64.out.below hbc).lt)
  have Rp3_66 := Lib.hid ((Rp3_64.out.below hbc).lt)
  have Rp4_66 := Lib.hid ((Rp4_64.out.below hbc).lt)
  have Rp5_66 := Lib.hid ((Rp5_64.out.below hbc).lt)
  have Rp6_66 := Lib.hid ((Rp6_64.out.below hbc).lt)
  have Rq1_66 := Lib.hid ((Rq1_64.out.below hbc).lt)
  have Rq2_66 := Lib.hid ((Rq2_64.out.below hbc).lt)
  have Rt1_66 := Lib.hid ((Rt1_64.out.below hbc).lt)
  have Rt2_66 := Lib.hid ((Rt2_64.out.below hbc).lt)
  have Rt3_66 := Lib.hid ((Rt3_64.out.below hbc).lt)
  have Rt4_66 := Lib.hid ((Rt4_64.out.below hbc).lt)
  clear hbc HB64 HR0_64 HR1_64 HR2_64 K0_64 K1_64 K2_64 Rp1_64 Rp2_64 Rp3_64 Rp4_64 Rp5_64 Rp6_64 Rq1_64 Rq2_64 Rt1_64 Rt2_64 Rt3_64 Rt4_64 hb
  refine hK.out _ _ ⟨HB66.out, K0_66.out, K1_66.out, K2_66.out⟩ ?_
  clear hK K
  try simp only [Act.put, List.setIfInBounds_toArray, List.set_cons_zero, List.set_cons_succ]
  repeat (first
    | (refine wpTr_fskip (by simp only [List.getElem?_toArray, List.getElem?_cons_zero, List.getElem?_cons_succ]; rfl) (by rfl) ?_
       simp only [Act.put, List.setIfInBounds_toArray, List.set_cons_zero, List.set_cons_succ])
    | (refine wpTr_float (v := ?_) (by simp only [List.getElem?_toArray, List.getElem?_cons_zero, List.getElem?_cons_succ]; rfl) (by rfl) (fun w' hS => ?_) ?_
       rotate_left
       (obtain ⟨hSb, hSb0, hSb1, hSb2⟩ := hS; have eSb0 := hSb0.cell 0; have lSb0 := hSb0.lt; simp at eSb0; have eSb1 := hSb1.cell 0; have lSb1 := hSb1.lt; simp at eSb1; have eSb2 := hSb2.cell 0; have lSb2 := hSb2.lt; simp at eSb2; go_simp; first | done | rfl)
       simp only [Act.put, List.setIfInBounds_toArray, List.set_cons_zero, List.set_cons_succ]))
  refine wpTr_done ?_
  go_wp2
  go_ret
  exact ⟨rfl, HB66.out⟩
end Go.Proofs.YtogfhaeohcpkjaaDoor.LOrders
