/-
  CpsetOrders: the walk of the law: it returns true, nothing older changes.
-/
import Derived.Test.YtogfhaeohcpkjaaDoorCsL
import Derived.Test.YtogfhaeohcpkjaaDoorTree
import Derived.Deep.QuietTactic
import Derived.BigQuiet
import Derived.IntWalk
import Derived.Outline
import Derived.Test.YtogfhaeohcpkjaaDoorCr4
import Derived.Test.YtogfhaeohcpkjaaDoorCt3
import Derived.Test.YtogfhaeohcpkjaaDoorWlkOrdersA
import Derived.Test.YtogfhaeohcpkjaaDoorWlkOrdersB
namespace Go.Proofs.YtogfhaeohcpkjaaDoor.LOrders
open Go.ChangeShapes Go.WideShapes Go.ChangeAt Go.RowKit Go.UtYtogfhaeohcpkjaaDoor Go.Joins
set_option maxRecDepth 100000 in
set_option maxHeartbeats 4000000 in
theorem wN (w : World) (hd : Digs w) (hm : MaxL w) (A0 : Option Addr) (c0 : Nat) (l0 : List Rg) (_lc0 : l0.length ≤ c0) (_lm0 : c0 ≤ maxLen) (hR0 : Row w w.heap.size A0 (rgs l0)) (A1 : Option Addr) (c1 : Nat) (l1 : List Rg) (_lc1 : l1.length ≤ c1) (_lm1 : c1 ≤ maxLen) (hR1 : Row w w.heap.size A1 (rgs l1)) (A2 : Option Addr) (c2 : Nat) (l2 : List Rg) (_lc2 : l2.length ≤ c2) (_lm2 : c2 ≤ maxLen) (hR2 : Row w w.heap.size A2 (rgs l2)) (hs0 : l0.length ≤ 12) (hs1 : l1.length ≤ 12) (_hs2 : l2.length ≤ 12) (HS : Hid ((decide ((l0.length : Int) ≤ 12) && decide ((l1.length : Int) ≤ 12)) = true)) (HT : Hid (decide ((l2.length : Int) ≤ 12) = true)) (hsub : ¬ subP l0 l1) :
    Calls Tryd.prog 10 #[.agg #[.slice A0 l0.length c0], .agg #[.slice A1 l1.length c1], .agg #[.slice A2 l2.length c2]] w fun e w' => e = .returned (.bool true) ∧ Below w.heap.size w w' := by
  have HD := Lib.hid hd
  have HM := Lib.hid hm
  clear hd hm
  have HB0 := Lib.hid (Below.refl w.heap.size w)
  have HR0_0 := Lib.hid hR0
  clear hR0
  have HR1_0 := Lib.hid hR1
  clear hR1
  have HR2_0 := Lib.hid hR2
  clear hR2
  have qF := run_field_set
  have hb0 := cardS_bd l0
  have hb1 := cardS_bd l1
  obtain ⟨Na, hNa⟩ : ∃ N, cardS l0 = N := ⟨_, rfl⟩
  obtain ⟨Nb, hNb⟩ : ∃ N, cardS l1 = N := ⟨_, rfl⟩
  have HCA : Hid (∀ r, Cnn r → (∀ x, hasP r x ↔ hasP l0 x) → cntR r = Na) := fun r h1 h2 => by rw [← hNa]; exact count_card h1 h2
  have HCB : Hid (∀ r, Cnn r → (∀ x, hasP r x ↔ hasP l1 x) → cntR r = Nb) := fun r h1 h2 => by rw [← hNb]; exact count_card h1 h2
  have HNA := Lib.hid hNa
  have HNB := Lib.hid hNb
  rw [hNa] at hb0
  rw [hNb] at hb1
  obtain ⟨a1, a2⟩ := hb0
  obtain ⟨b1', b2'⟩ := hb1
  clear hNa hNb
  have HSUB := Lib.hid hsub
  clear hsub
  go_enter Tryd.func10, Tryd.ntmps10
  go_wp2_with fail
  obtain ⟨n1, hv, hbb, hk0, hk1, hk2⟩ : ∃ v, v = (((w.alloc (.cells #[.slice A0 l0.length c0] 24)).alloc (.cells #[.slice A1 l1.length c1] 24)).alloc (.cells #[.slice A2 l2.length c2] 24)) ∧ Below w.heap.size w v ∧ Blk v (w.heap.size) 24 #[.slice A0 l0.length c0] ∧ Blk v (w.heap.size + 1) 24 #[.slice A1 l1.length c1] ∧ Blk v (w.heap.size + 1 + 1) 24 #[.slice A2 l2.length c2] :=
    ⟨_, rfl, (((Below.refl _ _).alloc (Nat.le_refl _) _).alloc (by simp; try omega) _).alloc (by simp; try omega) _, ((Blk.at_new (by simp; try omega)).alloc _).alloc _, (Blk.at_new (by simp; try omega)).alloc _, Blk.at_new (by simp; try omega)⟩
  rw [← hv]
  clear hv
  obtain ⟨b2, ha⟩ : ∃ a, a = w.heap.size + 1 + 1 := ⟨_, rfl⟩
  rw [← ha] at hk2 ⊢
  clear ha
  obtain ⟨b1, ha⟩ : ∃ a, a = w.heap.size + 1 := ⟨_, rfl⟩
  rw [← ha] at hk1 ⊢
  clear ha
  obtain ⟨b0, ha⟩ : ∃ a, a = w.heap.size := ⟨_, rfl⟩
  rw [← ha] at hk0 ⊢
  clear ha
  have hbc := hbb
  have HB2 := Lib.hid (below_then HB0.out hbc (Nat.le_refl _))
  have HR0_2 := Lib.hid ((HR0_0.out.below hbc).lt)
  have HR1_2 := Lib.hid ((HR1_0.out.below hbc).lt)
  have HR2_2 := Lib.hid ((HR2_0.out.below hbc).lt)
  have K0_2 := Lib.hid (hk0)
  have K1_2 := Lib.hid (hk1)
  have K2_2 := Lib.hid (hk2)
  clear hbc HB0 HR0_0 HR1_0 HR2_0 hbb hk0 hk1 hk2
  refine (small2_any A0 A1 _ _ c0 c1 _ _ HS.out).mono ?_
  rintro e w3 ⟨rfl, hb⟩
  have hbc := hb
  have HB4 := Lib.hid (below_then HB2.out hbc (Nat.le_refl _))
  have HR0_4 := Lib.hid ((HR0_2.out.below hbc).lt)
  have HR1_4 := Lib.hid ((HR1_2.out.below hbc).lt)
  have HR2_4 := Lib.hid ((HR2_2.out.below hbc).lt)
  have K0_4 := Lib.hid (K0_2.out.after hbc)
  have K1_4 := Lib.hid (K1_2.out.after hbc)
  have K2_4 := Lib.hid (K2_2.out.after hbc)
  clear hbc HB2 HR0_2 HR1_2 HR2_2 K0_2 K1_2 K2_2 hb
  have eK2_ := K2_4.out.cell 0
  have lK2_ := K2_4.out.lt
  simp at eK2_
  go_wp2_with fail
  clear eK2_ lK2_
  refine (small_any A2 _ c2 _ _ HT.out).mono ?_
  rintro e w5 ⟨rfl, hb⟩
  have hbc := hb
  have HB6 := Lib.hid (below_then HB4.out hbc (Nat.le_refl _))
  have HR0_6 := Lib.hid ((HR0_4.out.below hbc).lt)
  have HR1_6 := Lib.hid ((HR1_4.out.below hbc).lt)
  have HR2_6 := Lib.hid ((HR2_4.out.below hbc).lt)
  have K0_6 := Lib.hid (K0_4.out.after hbc)
  have K1_6 := Lib.hid (K1_4.out.after hbc)
  have K2_6 := Lib.hid (K2_4.out.after hbc)
  clear hbc HB4 HR0_4 HR1_4 HR2_4 K0_4 K1_4 K2_4 hb
  have eK0_ := K0_6.out.cell 0
  have lK0_ := K0_6.out.lt
  simp at eK0_
  have eK1_ := K1_6.out.cell 0
  have lK1_ := K1_6.out.lt
  simp at eK1_
  go_wp2_with fail
  clear eK0_ lK0_
  clear eK1_ lK1_
  refine (subset_any A0 A1 c0 c1 l0 l1 _ HR0_6.out HR1_6.out (by omega) (by omega) false ⟨(fun h => by cases h), fun h => absurd h HSUB.out⟩).mono ?_
  rintro e w7 ⟨rfl, hb⟩
  have hbc := hb
  have HB8 := Lib.hid (below_then HB6.out hbc (Nat.le_refl _))
  have HR0_8 := Lib.hid ((HR0_6.out.below hbc).lt)
  have HR1_8 := Lib.hid ((HR1_6.out.below hbc).lt)
  have HR2_8 := Lib.hid ((HR2_6.out.below hbc).lt)
  have K0_8 := Lib.hid (K0_6.out.after hbc)
  have K1_8 := Lib.hid (K1_6.out.after hbc)
  have K2_8 := Lib.hid (K2_6.out.after hbc)
  clear hbc HB6 HR0_6 HR1_6 HR2_6 K0_6 K1_6 K2_6 hb
  go_wp2_with fail
  refine wp_region_tree (fun w' => Below w.heap.size w w' ∧ Blk w' b0 24 #[.slice A0 l0.length c0] ∧ Blk w' b1 24 #[.slice A1 l1.length c1] ∧ Blk w' b2 24 #[.slice A2 l2.length c2]) (.float 0 (.float 1 (.float 2 (.one 3 (.float 4 (.float 5 (.float 6 (.float 7 (.float 8 (.float 9 (.float 10 (.float 11 (.float 13 (.float 14 (.one 12 (.one 15 (.one 16 (.float 17 (.float 18 (.float 19 (.float 20 (.float 21 (.float 23 (.float 24 (.one 22 (.one 25 (.one 26 (.one 27 (.float 28 (.float 29 .done)))))))))))))))))))))))))))))) (by kernel_rfl) (by kernel_rfl) (fun _ _ d _ _ h => by cases d <;> exact h) ⟨HB8.out.drew, K0_8.out.drew, K1_8.out.drew, K2_8.out.drew⟩ ?_
  obtain ⟨d9, hdr, hbd⟩ : ∃ d, d = w7.drew ∧ Below w7.heap.size w7 d := ⟨_, rfl, (Below.refl _ _).drew⟩
  rw [← hdr]
  clear hdr
  have hbc := hbd
  have HB10 := Lib.hid (below_then HB8.out hbc (Nat.le_refl _))
  have HR0_10 := Lib.hid ((HR0_8.out.below hbc).lt)
  have HR1_10 := Lib.hid ((HR1_8.out.below hbc).lt)
  have HR2_10 := Lib.hid ((HR2_8.out.below hbc).lt)
  have K0_10 := Lib.hid (K0_8.out.after hbc)
  have K1_10 := Lib.hid (K1_8.out.after hbc)
  have K2_10 := Lib.hid (K2_8.out.after hbc)
  clear hbc HB8 HR0_8 HR1_8 HR2_8 K0_8 K1_8 K2_8 hbd
  repeat (first
    | (refine wpTr_fskip (by simp only [List.getElem?_toArray, List.getElem?_cons_zero, List.getElem?_cons_succ]; rfl) (by rfl) ?_
       simp only [Act.put, List.setIfInBounds_toArray, List.set_cons_zero, List.set_cons_succ])
    | (refine wpTr_float (v := ?_) (by simp only [List.getElem?_toArray, List.getElem?_cons_zero, List.getElem?_cons_succ]; rfl) (by rfl) (fun w' hS => ?_) ?_
       rotate_left
       (obtain ⟨hSb, hSb0, hSb1, hSb2⟩ := hS; have eSb0 := hSb0.cell 0; have lSb0 := hSb0.lt; simp at eSb0; have eSb1 := hSb1.cell 0; have lSb1 := hSb1.lt; simp at eSb1; have eSb2 := hSb2.cell 0; have lSb2 := hSb2.lt; simp at eSb2; go_simp; first | done | rfl)
       simp only [Act.put, List.setIfInBounds_toArray, List.set_cons_zero, List.set_cons_succ]))
  refine wpTr_one ?_
  refine stepTr_K (by simp only [List.getElem?_toArray, List.getElem?_cons_zero, List.getElem?_cons_succ]; rfl) (by rfl) (fun K hK => ?_)
  go_simp
  refine (minus_any A0 A1 c0 c1 l0 l1 _ HR0_10.out HR1_10.out (by omega) (by omega)).mono ?_
  rintro e w11 ⟨Ap1, cp1, rp1, rfl, hc, hh, hr, hb⟩
  have hbc := hb
  have HB12 := Lib.hid (below_then HB10.out hbc (Nat.le_refl _))
  have HR0_12 := Lib.hid ((HR0_10.out.below hbc).lt)
  have HR1_12 := Lib.hid ((HR1_10.out.below hbc).lt)
  have HR2_12 := Lib.hid ((HR2_10.out.below hbc).lt)
  have K0_12 := Lib.hid (K0_10.out.after hbc)
  have K1_12 := Lib.hid (K1_10.out.after hbc)
  have K2_12 := Lib.hid (K2_10.out.after hbc)
  have Rp1_12 := Lib.hid (hr)
  clear hbc HB10 HR0_10 HR1_10 HR2_10 K0_10 K1_10 K2_10 hb hr
  have Cp1 := Lib.hid hc
  have Mp1 := Lib.hid hh
  clear hc hh
  obtain ⟨y, tl, rfl⟩ : ∃ y tl, rp1 = y :: tl := by
    cases hrp : rp1 with
    | nil => exact absurd (fun x hx => Classical.byContradiction fun hb => by have := (Mp1.out x).2 ⟨hx, hb⟩; rw [hrp] at this; exact memR_nil this.2) HSUB.out
    | cons y tl => exact ⟨y, tl, rfl⟩
  have z1 : (((tl.length : Int) + 1) == 0) = false := by simp; omega
  refine hK.out _ _ ⟨HB12.out, K0_12.out, K1_12.out, K2_12.out⟩ ?_
  clear hK K
  try simp only [Act.put, List.setIfInBounds_toArray, List.set_cons_zero, List.set_cons_succ]
  repeat (first
    | (refine wpTr_fskip (by simp only [List.getElem?_toArray, List.getElem?_cons_zero, List.getElem?_cons_succ]; rfl) (by rfl) ?_
       simp only [Act.put, List.setIfInBounds_toArray, List.set_cons_zero, List.set_cons_succ])
    | (refine wpTr_float (v := ?_) (by simp only [List.getElem?_toArray, List.getElem?_cons_zero, List.getElem?_cons_succ]; rfl) (by rfl) (fun w' hS => ?_) ?_
       rotate_left
       (obtain ⟨hSb, hSb0, hSb1, hSb2⟩ := hS; have eSb0 := hSb0.cell 0; have lSb0 := hSb0.lt; simp at eSb0; have eSb1 := hSb1.cell 0; have lSb1 := hSb1.lt; simp at eSb1; have eSb2 := hSb2.cell 0; have lSb2 := hSb2.lt; simp at eSb2; go_simp; first | done | rfl)
       simp only [Act.put, List.setIfInBounds_toArray, List.set_cons_zero, List.set_cons_succ]))
  refine wpTr_one ?_
  refine stepTr_K (by simp only [List.getElem?_toArray, List.getElem?_cons_zero, List.getElem?_cons_succ]; rfl) (by rfl) (fun K hK => ?_)
  go_simp
  refine (or_any A0 A1 c0 c1 l0 l1 _ HR0_12.out HR1_12.out (by omega) (by omega)).mono ?_
  rintro e w13 ⟨Ap2, cp2, rp2, rfl, hc, hh, hr, hb⟩
  have hbc := hb
  have HB14 := Lib.hid (below_then HB12.out hbc (Nat.le_refl _))
  have HR0_14 := Lib.hid ((HR0_12.out.below hbc).lt)
  have HR1_14 := Lib.hid ((HR1_12.out.below hbc).lt)
  have HR2_14 := Lib.hid ((HR2_12.out.below hbc).lt)
  have K0_14 := Lib.hid (K0_12.out.after hbc)
  have K1_14 := Lib.hid (K1_12.out.after hbc)
  have K2_14 := Lib.hid (K2_12.out.after hbc)
  have Rp1_14 := Lib.hid ((Rp1_12.out.below hbc).lt)
  have Rp2_14 := Lib.hid (hr)
  clear hbc HB12 HR0_12 HR1_12 HR2_12 K0_12 K1_12 K2_12 Rp1_12 hb hr
  have Cp2 := Lib.hid hc
  have Mp2 := Lib.hid hh
  clear hc hh
  refine hK.out _ _ ⟨HB14.out, K0_14.out, K1_14.out, K2_14.out⟩ ?_
  clear hK K
  try simp only [Act.put, List.setIfInBounds_toArray, List.set_cons_zero, List.set_cons_succ]
  refine wpTr_one ?_
  refine stepTr_K (by simp only [List.getElem?_toArray, List.getElem?_cons_zero, List.getElem?_cons_succ]; rfl) (by rfl) (fun K hK => ?_)
  go_simp
  refine (make_any A1 c1 l1 _ HR1_14.out (by omega)).mono ?_
  rintro e w15 ⟨Ap3, cp3, rp3, rfl, hc, hh, hr, hb⟩
  have hbc := hb
  have HB16 := Lib.hid (below_then HB14.out hbc (Nat.le_refl _))
  have HR0_16 := Lib.hid ((HR0_14.out.below hbc).lt)
  have HR1_16 := Lib.hid ((HR1_14.out.below hbc).lt)
  have HR2_16 := Lib.hid ((HR2_14.out.below hbc).lt)
  have K0_16 := Lib.hid (K0_14.out.after hbc)
  have K1_16 := Lib.hid (K1_14.out.after hbc)
  have K2_16 := Lib.hid (K2_14.out.after hbc)
  have Rp1_16 := Lib.hid ((Rp1_14.out.below hbc).lt)
  have Rp2_16 := Lib.hid ((Rp2_14.out.below hbc).lt)
  have Rp3_16 := Lib.hid (hr)
  clear hbc HB14 HR0_14 HR1_14 HR2_14 K0_14 K1_14 K2_14 Rp1_14 Rp2_14 hb hr
  have Cp3 := Lib.hid hc
  have Mp3 := Lib.hid hh
  clear hc hh
  refine hK.out _ _ ⟨HB16.out, K0_16.out, K1_16.out, K2_16.out⟩ ?_
  clear hK K
  try simp only [Act.put, List.setIfInBounds_toArray, List.set_cons_zero, List.set_cons_succ]
  refine wpTr_one ?_
  refine stepTr_K (by simp only [List.getElem?_toArray, List.getElem?_cons_zero, List.getElem?_cons_succ]; rfl) (by rfl) (fun K hK => ?_)
  go_simp
  refine (same_any Ap2 Ap3 cp2 cp3 _ _ rp2 rp3 rfl rfl _ Rp2_16.out Rp3_16.out (by have := can_len Cp2.out; simp only [maxLen]; omega) (by have := can_len Cp3.out; simp only [maxLen]; omega) false (decide_eq_false (fun e => HSUB.out (fun x hx => (Mp3.out x).1 (e ▸ (Mp2.out x).2 (.inl hx)))))).mono ?_
  rintro e w17 ⟨rfl, hb⟩
  have hbc := hb
  have HB18 := Lib.hid (below_then HB16.out hbc (Nat.le_refl _))
  have HR0_18 := Lib.hid ((HR0_16.out.below hbc).lt)
  have HR1_18 := Lib.hid ((HR1_16.out.below hbc).lt)
  have HR2_18 := Lib.hid ((HR2_16.out.below hbc).lt)
  have K0_18 := Lib.hid (K0_16.out.after hbc)
  have K1_18 := Lib.hid (K1_16.out.after hbc)
  have K2_18 := Lib.hid (K2_16.out.after hbc)
  have Rp1_18 := Lib.hid ((Rp1_16.out.below hbc).lt)
  have Rp2_18 := Lib.hid ((Rp2_16.out.below hbc).lt)
  have Rp3_18 := Lib.hid ((Rp3_16.out.below hbc).lt)
  clear hbc HB16 HR0_16 HR1_16 HR2_16 K0_16 K1_16 K2_16 Rp1_16 Rp2_16 Rp3_16 hb
  refine hK.out _ _ ⟨HB18.out, K0_18.out, K1_18.out, K2_18.out⟩ ?_
  clear hK K
  try simp only [Act.put, List.setIfInBounds_toArray, List.set_cons_zero, List.set_cons_succ]
  repeat (first
    | (refine wpTr_fskip (by simp only [List.getElem?_toArray, List.getElem?_cons_zero, List.getElem?_cons_succ]; rfl) (by rfl) ?_
       simp only [Act.put, List.setIfInBounds_toArray, List.set_cons_zero, List.set_cons_succ])
    | (refine wpTr_float (v := ?_) (by simp only [List.getElem?_toArray, List.getElem?_cons_zero, List.getElem?_cons_succ]; rfl) (by rfl) (fun w' hS => ?_) ?_
       rotate_left
       (obtain ⟨hSb, hSb0, hSb1, hSb2⟩ := hS; have eSb0 := hSb0.cell 0; have lSb0 := hSb0.lt; simp at eSb0; have eSb1 := hSb1.cell 0; have lSb1 := hSb1.lt; simp at eSb1; have eSb2 := hSb2.cell 0; have lSb2 := hSb2.lt; simp at eSb2; go_simp; first | done | rfl)
       simp only [Act.put, List.setIfInBounds_toArray, List.set_cons_zero, List.set_cons_succ]))
  refine wpTr_one ?_
  refine stepTr_K (by simp only [List.getElem?_toArray, List.getElem?_cons_zero, List.getElem?_cons_succ]; rfl) (by rfl) (fun K hK => ?_)
  go_simp
  refine (minus_any A0 A1 c0 c1 l0 l1 _ HR0_18.out HR1_18.out (by omega) (by omega)).mono ?_
  rintro e w19 ⟨Ap4, cp4, rp4, rfl, hc, hh, hr, hb⟩
  have hbc := hb
  have HB20 := Lib.hid (below_then HB18.out hbc (Nat.le_refl _))
  have HR0_20 := Lib.hid ((HR0_18.out.below hbc).lt)
  have HR1_20 := Lib.hid ((HR1_18.out.below hbc).lt)
  have HR2_20 := Lib.hid ((HR2_18.out.below hbc).lt)
  have K0_20 := Lib.hid (K0_18.out.after hbc)
  have K1_20 := Lib.hid (K1_18.out.after hbc)
  have K2_20 := Lib.hid (K2_18.out.after hbc)
  have Rp1_20 := Lib.hid ((Rp1_18.out.below hbc).lt)
  have Rp2_20 := Lib.hid ((Rp2_18.out.below hbc).lt)
  have Rp3_20 := Lib.hid ((Rp3_18.out.below hbc).lt)
  have Rp4_20 := Lib.hid (hr)
  clear hbc HB18 HR0_18 HR1_18 HR2_18 K0_18 K1_18 K2_18 Rp1_18 Rp2_18 Rp3_18 hb hr
  have Cp4 := Lib.hid hc
  have Mp4 := Lib.hid hh
  clear hc hh
  refine hK.out _ _ ⟨HB20.out, K0_20.out, K1_20.out, K2_20.out⟩ ?_
  clear hK K
  try simp only [Act.put, List.setIfInBounds_toArray, List.set_cons_zero, List.set_cons_succ]
  refine wpTr_one ?_
  refine stepTr_K (by simp only [List.getElem?_toArray, List.getElem?_cons_zero, List.getElem?_cons_succ]; rfl) (by rfl) (fun K hK => ?_)
  go_simp
  refine (not_any A1 c1 l1 _ HR1_20.out (by omega)).mono ?_
  rintro e w21 ⟨Ap5, cp5, rp5, rfl, hc, hh, hr, hb⟩
  have hbc := hb
  have HB22 := Lib.hid (below_then HB20.out hbc (Nat.le_refl _))
  have HR0_22 := Lib.hid ((HR0_20.out.below hbc).lt)
  have HR1_22 := Lib.hid ((HR1_20.out.below hbc).lt)
  have HR2_22 := Lib.hid ((HR2_20.out.below hbc).lt)
  have K0_22 := Lib.hid (K0_20.out.after hbc)
  have K1_22 := Lib.hid (K1_20.out.after hbc)
  have K2_22 := Lib.hid (K2_20.out.after hbc)
  have Rp1_22 := Lib.hid ((Rp1_20.out.below hbc).lt)
  have Rp2_22 := Lib.hid ((Rp2_20.out.below hbc).lt)
  have Rp3_22 := Lib.hid ((Rp3_20.out.below hbc).lt)
  have Rp4_22 := Lib.hid ((Rp4_20.out.below hbc).lt)
  have Rp5_22 := Lib.hid (hr)
  clear hbc HB20 HR0_20 HR1_20 HR2_20 K0_20 K1_20 K2_20 Rp1_20 Rp2_20 Rp3_20 Rp4_20 hb hr
  have Cp5 := Lib.hid hc
  have Mp5 := Lib.hid hh
  clear hc hh
  refine hK.out _ _ ⟨HB22.out, K0_22.out, K1_22.out, K2_22.out⟩ ?_
  clear hK K
  try simp only [Act.put, List.setIfInBounds_toArray, List.set_cons_zero, List.set_cons_succ]
  refine wpTr_one ?_
  refine stepTr_K (by simp only [List.getElem?_toArray, List.getElem?_cons_zero, List.getElem?_cons_succ]; rfl) (by rfl) (fun K hK => ?_)
  go_simp
  refine (and_any A0 Ap5 c0 cp5 l0 rp5 _ HR0_22.out Rp5_22.out (by omega) (by have := can_len Cp5.out; omega)).mono ?_
  rintro e w23 ⟨Ap6, cp6, rp6, rfl, hc, hh, hr, hb⟩
  have hbc := hb
  have HB24 := Lib.hid (below_then HB22.out hbc (Nat.le_refl _))
  have HR0_24 := Lib.hid ((HR0_22.out.below hbc).lt)
  have HR1_24 := Lib.hid ((HR1_22.out.below hbc).lt)
  have HR2_24 := Lib.hid ((HR2_22.out.below hbc).lt)
  have K0_24 := Lib.hid (K0_22.out.after hbc)
  have K1_24 := Lib.hid (K1_22.out.after hbc)
  have K2_24 := Lib.hid (K2_22.out.after hbc)
  have Rp1_24 := Lib.hid ((Rp1_22.out.below hbc).lt)
  have Rp2_24 := Lib.hid ((Rp2_22.out.below hbc).lt)
  have Rp3_24 := Lib.hid ((Rp3_22.out.below hbc).lt)
  have Rp4_24 := Lib.hid ((Rp4_22.out.below hbc).lt)
  have Rp5_24 := Lib.hid ((Rp5_22.out.below hbc).lt)
  have Rp6_24 := Lib.hid (hr)
  clear hbc HB22 HR0_22 HR1_22 HR2_22 K0_22 K1_22 K2_22 Rp1_22 Rp2_22 Rp3_22 Rp4_22 Rp5_22 hb hr
  have Cp6 := Lib.hid hc
  have Mp6 := Lib.hid hh
  clear hc hh
  refine hK.out _ _ ⟨HB24.out, K0_24.out, K1_24.out, K2_24.out⟩ ?_
  clear hK K
  try simp only [Act.put, List.setIfInBounds_toArray, List.set_cons_zero, List.set_cons_succ]
  refine wpTr_one ?_
  refine stepTr_K (by simp only [List.getElem?_toArray, List.getElem?_cons_zero, List.getElem?_cons_succ]; rfl) (by rfl) (fun K hK => ?_)
  go_simp
  refine (same_any Ap4 Ap6 cp4 cp6 _ _ rp4 rp6 rfl rfl _ Rp4_24.out Rp6_24.out (by have := can_len Cp4.out; simp only [maxLen]; omega) (by have := can_len Cp6.out; simp only [maxLen]; omega) true (decide_eq_true (can_eq Cp4.out Cp6.out (fun x => by
        simp only [Mp4.out, Mp6.out, Mp5.out]
        all_goals (by_cases hk : codeP x <;> by_cases hh0 : hasP l0 x <;> by_cases hh1 : hasP l1 x <;> first | (simp [hk, hh0, hh1]; done) | exact absurd hh0.1 hk | exact absurd hh1.1 hk))))).mono ?_
  rintro e w25 ⟨rfl, hb⟩
  have hbc := hb
  have HB26 := Lib.hid (below_then HB24.out hbc (Nat.le_refl _))
  have HR0_26 := Lib.hid ((HR0_24.out.below hbc).lt)
  have HR1_26 := Lib.hid ((HR1_24.out.below hbc).lt)
  have HR2_26 := Lib.hid ((HR2_24.out.below hbc).lt)
  have K0_26 := Lib.hid (K0_24.out.after hbc)
  have K1_26 := Lib.hid (K1_24.out.after hbc)
  have K2_26 := Lib.hid (K2_24.out.after hbc)
  have Rp1_26 := Lib.hid ((Rp1_24.out.below hbc).lt)
  have Rp2_26 := Lib.hid ((Rp2_24.out.below hbc).lt)
  have Rp3_26 := Lib.hid ((Rp3_24.out.below hbc).lt)
  have Rp4_26 := Lib.hid ((Rp4_24.out.below hbc).lt)
  have Rp5_26 := Lib.hid ((Rp5_24.out.below hbc).lt)
  have Rp6_26 := Lib.hid ((Rp6_24.out.below hbc).lt)
  clear hbc HB24 HR0_24 HR1_24 HR2_24 K0_24 K1_24 K2_24 Rp1_24 Rp2_24 Rp3_24 Rp4_24 Rp5_24 Rp6_24 hb
  refine hK.out _ _ ⟨HB26.out, K0_26.out, K1_26.out, K2_26.out⟩ ?_
  clear hK K
  try simp only [Act.put, List.setIfInBounds_toArray, List.set_cons_zero, List.set_cons_succ]
  repeat (first
    | (refine wpTr_fskip (by simp only [List.getElem?_toArray, List.getElem?_cons_zero, List.getElem?_cons_succ]; rfl) (by rfl) ?_
       simp only [Act.put, List.setIfInBounds_toArray, List.set_cons_zero, List.set_cons_succ])
    | (refine wpTr_float (v := ?_) (by simp only [List.getElem?_toArray, List.getElem?_cons_zero, List.getElem?_cons_succ]; rfl) (by rfl) (fun w' hS => ?_) ?_
       rotate_left
       (obtain ⟨hSb, hSb0, hSb1, hSb2⟩ := hS; have eSb0 := hSb0.cell 0; have lSb0 := hSb0.lt; simp at eSb0; have eSb1 := hSb1.cell 0; have lSb1 := hSb1.lt; simp at eSb1; have eSb2 := hSb2.cell 0; have lSb2 := hSb2.lt; simp at eSb2; go_simp; first | done | rfl)
       simp only [Act.put, List.setIfInBounds_toArray, List.set_cons_zero, List.set_cons_succ]))
  refine wpTr_done ?_
  go_wp2_with fail
  refine wp_region_tree (fun w' => Below w.heap.size w w' ∧ Blk w' b0 24 #[.slice A0 l0.length c0] ∧ Blk w' b1 24 #[.slice A1 l1.length c1] ∧ Blk w' b2 24 #[.slice A2 l2.length c2]) (.float 0 (.float 1 (.float 2 (.float 3 (.float 5 (.float 6 (.float 8 (.float 9 (.one 4 (.one 7 (.one 10 (.one 11 (.float 12 (.float 13 (.float 14 (.float 15 (.float 16 (.float 17 (.float 18 (.one 19 (.float 20 (.float 21 (.float 22 (.float 23 (.one 24 (.float 25 (.float 26 (.float 27 (.float 28 (.float 29 (.float 30 (.float 31 (.float 33 (.one 32 (.one 34 (.float 35 (.float 36 (.float 37 .done)))))))))))))))))))))))))))))))))))))) (by kernel_rfl) (by kernel_rfl) (fun _ _ d _ _ h => by cases d <;> exact h) ⟨HB26.out.drew, K0_26.out.drew, K1_26.out.drew, K2_26.out.drew⟩ ?_
  obtain ⟨d27, hdr, hbd⟩ : ∃ d, d = w25.drew ∧ Below w25.heap.size w25 d := ⟨_, rfl, (Below.refl _ _).drew⟩
  rw [← hdr]
  clear hdr
  have hbc := hbd
  have HB28 := Lib.hid (below_then HB26.out hbc (Nat.le_refl _))
  have HR0_28 := Lib.hid ((HR0_26.out.below hbc).lt)
  have HR1_28 := Lib.hid ((HR1_26.out.below hbc).lt)
  have HR2_28 := Lib.hid ((HR2_26.out.below hbc).lt)
  have K0_28 := Lib.hid (K0_26.out.after hbc)
  have K1_28 := Lib.hid (K1_26.out.after hbc)
  have K2_28 := Lib.hid (K2_26.out.after hbc)
  have Rp1_28 := Lib.hid ((Rp1_26.out.below hbc).lt)
  have Rp2_28 := Lib.hid ((Rp2_26.out.below hbc).lt)
  have Rp3_28 := Lib.hid ((Rp3_26.out.below hbc).lt)
  have Rp4_28 := Lib.hid ((Rp4_26.out.below hbc).lt)
  have Rp5_28 := Lib.hid ((Rp5_26.out.below hbc).lt)
  have Rp6_28 := Lib.hid ((Rp6_26.out.below hbc).lt)
  clear hbc HB26 HR0_26 HR1_26 HR2_26 K0_26 K1_26 K2_26 Rp1_26 Rp2_26 Rp3_26 Rp4_26 Rp5_26 Rp6_26 hbd
  repeat (first
    | (refine wpTr_fskip (by simp only [List.getElem?_toArray, List.getElem?_cons_zero, List.getElem?_cons_succ]; rfl) (by rfl) ?_
       simp only [Act.put, List.setIfInBounds_toArray, List.set_cons_zero, List.set_cons_succ])
    | (refine wpTr_float (v := ?_) (by simp only [List.getElem?_toArray, List.getElem?_cons_zero, List.getElem?_cons_succ]; rfl) (by rfl) (fun w' hS => ?_) ?_
       rotate_left
       (obtain ⟨hSb, hSb0, hSb1, hSb2⟩ := hS; have eSb0 := hSb0.cell 0; have lSb0 := hSb0.lt; simp at eSb0; have eSb1 := hSb1.cell 0; have lSb1 := hSb1.lt; simp at eSb1; have eSb2 := hSb2.cell 0; have lSb2 := hSb2.lt; simp at eSb2; go_simp; first | done | rfl)
       simp only [Act.put, List.setIfInBounds_toArray, List.set_cons_zero, List.set_cons_succ]))
  refine wpTr_one ?_
  refine wpTr_skip (by simp only [List.getElem?_toArray, List.getElem?_cons_zero, List.getElem?_cons_succ]; rfl) (by rfl) ?_
  try simp only [Act.put, List.setIfInBounds_toArray, List.set_cons_zero, List.set_cons_succ]
  refine wpTr_one ?_
  refine wpTr_skip (by simp only [List.getElem?_toArray, List.getElem?_cons_zero, List.getElem?_cons_succ]; rfl) (by rfl) ?_
  try simp only [Act.put, List.setIfInBounds_toArray, List.set_cons_zero, List.set_cons_succ]
  refine wpTr_one ?_
  refine wpTr_skip (by simp only [List.getElem?_toArray, List.getElem?_cons_zero, List.getElem?_cons_succ]; rfl) (by rfl) ?_
  try simp only [Act.put, List.setIfInBounds_toArray, List.set_cons_zero, List.set_cons_succ]
  refine wpTr_one ?_
  refine wpTr_skip (by simp only [List.getElem?_toArray, List.getElem?_cons_zero, List.getElem?_cons_succ]; rfl) (by rfl) ?_
  try simp only [Act.put, List.setIfInBounds_toArray, List.set_cons_zero, List.set_cons_succ]
  repeat (first
    | (refine wpTr_fskip (by simp only [List.getElem?_toArray, List.getElem?_cons_zero, List.getElem?_cons_succ]; rfl) (by rfl) ?_
       simp only [Act.put, List.setIfInBounds_toArray, List.set_cons_zero, List.set_cons_succ])
    | (refine wpTr_float (v := ?_) (by simp only [List.getElem?_toArray, List.getElem?_cons_zero, List.getElem?_cons_succ]; rfl) (by rfl) (fun w' hS => ?_) ?_
       rotate_left
       (obtain ⟨hSb, hSb0, hSb1, hSb2⟩ := hS; have eSb0 := hSb0.cell 0; have lSb0 := hSb0.lt; simp at eSb0; have eSb1 := hSb1.cell 0; have lSb1 := hSb1.lt; simp at eSb1; have eSb2 := hSb2.cell 0; have lSb2 := hSb2.lt; simp at eSb2; go_simp; first | done | rfl)
       simp only [Act.put, List.setIfInBounds_toArray, List.set_cons_zero, List.set_cons_succ]))
  refine wpTr_one ?_
  refine wpTr_skip (by simp only [List.getElem?_toArray, List.getElem?_cons_zero, List.getElem?_cons_succ]; rfl) (by rfl) ?_
  try simp only [Act.put, List.setIfInBounds_toArray, List.set_cons_zero, List.set_cons_succ]
  repeat (first
    | (refine wpTr_fskip (by simp only [List.getElem?_toArray, List.getElem?_cons_zero, List.getElem?_cons_succ]; rfl) (by rfl) ?_
       simp only [Act.put, List.setIfInBounds_toArray, List.set_cons_zero, List.set_cons_succ])
    | (refine wpTr_float (v := ?_) (by simp only [List.getElem?_toArray, List.getElem?_cons_zero, List.getElem?_cons_succ]; rfl) (by rfl) (fun w' hS => ?_) ?_
       rotate_left
       (obtain ⟨hSb, hSb0, hSb1, hSb2⟩ := hS; have eSb0 := hSb0.cell 0; have lSb0 := hSb0.lt; simp at eSb0; have eSb1 := hSb1.cell 0; have lSb1 := hSb1.lt; simp at eSb1; have eSb2 := hSb2.cell 0; have lSb2 := hSb2.lt; simp at eSb2; go_simp; first | done | rfl)
       simp only [Act.put, List.setIfInBounds_toArray, List.set_cons_zero, List.set_cons_succ]))
  refine wpTr_one ?_
  refine wpTr_skip (by simp only [List.getElem?_toArray, List.getElem?_cons_zero, List.getElem?_cons_succ]; rfl) (by rfl) ?_
  try simp only [Act.put, List.setIfInBounds_toArray, List.set_cons_zero, List.set_cons_succ]
  repeat (first
    | (refine wpTr_fskip (by simp only [List.getElem?_toArray, List.getElem?_cons_zero, List.getElem?_cons_succ]; rfl) (by rfl) ?_
       simp only [Act.put, List.setIfInBounds_toArray, List.set_cons_zero, List.set_cons_succ])
    | (refine wpTr_float (v := ?_) (by simp only [List.getElem?_toArray, List.getElem?_cons_zero, List.getElem?_cons_succ]; rfl) (by rfl) (fun w' hS => ?_) ?_
       rotate_left
       (obtain ⟨hSb, hSb0, hSb1, hSb2⟩ := hS; have eSb0 := hSb0.cell 0; have lSb0 := hSb0.lt; simp at eSb0; have eSb1 := hSb1.cell 0; have lSb1 := hSb1.lt; simp at eSb1; have eSb2 := hSb2.cell 0; have lSb2 := hSb2.lt; simp at eSb2; go_simp; first | done | rfl)
       simp only [Act.put, List.setIfInBounds_toArray, List.set_cons_zero, List.set_cons_succ]))
  refine wpTr_one ?_
  refine wpTr_skip (by simp only [List.getElem?_toArray, List.getElem?_cons_zero, List.getElem?_cons_succ]; rfl) (by rfl) ?_
  try simp only [Act.put, List.setIfInBounds_toArray, List.set_cons_zero, List.set_cons_succ]
  refine wpTr_one ?_
  refine wpTr_skip (by simp only [List.getElem?_toArray, List.getElem?_cons_zero, List.getElem?_cons_succ]; rfl) (by rfl) ?_
  try simp only [Act.put, List.setIfInBounds_toArray, List.set_cons_zero, List.set_cons_succ]
  repeat (first
    | (refine wpTr_fskip (by simp only [List.getElem?_toArray, List.getElem?_cons_zero, List.getElem?_cons_succ]; rfl) (by rfl) ?_
       simp only [Act.put, List.setIfInBounds_toArray, List.set_cons_zero, List.set_cons_succ])
    | (refine wpTr_float (v := ?_) (by simp only [List.getElem?_toArray, List.getElem?_cons_zero, List.getElem?_cons_succ]; rfl) (by rfl) (fun w' hS => ?_) ?_
       rotate_left
       (obtain ⟨hSb, hSb0, hSb1, hSb2⟩ := hS; have eSb0 := hSb0.cell 0; have lSb0 := hSb0.lt; simp at eSb0; have eSb1 := hSb1.cell 0; have lSb1 := hSb1.lt; simp at eSb1; have eSb2 := hSb2.cell 0; have lSb2 := hSb2.lt; simp at eSb2; go_simp; first | done | rfl)
       simp only [Act.put, List.setIfInBounds_toArray, List.set_cons_zero, List.set_cons_succ]))
  refine wpTr_done ?_
  go_wp2_with fail
  have k1 : IntKind.i64.wrap (Na + Nb) = Na + Nb := IntWalk.i64_in _ (by omega)
  refine wp_region_tree (fun w' => Below w.heap.size w w' ∧ Blk w' b0 24 #[.slice A0 l0.length c0] ∧ Blk w' b1 24 #[.slice A1 l1.length c1] ∧ Blk w' b2 24 #[.slice A2 l2.length c2]) (.float 0 (.float 1 (.float 3 (.one 2 (.one 4 (.float 5 (.float 6 (.float 7 (.float 8 (.one 9 (.one 10 (.float 11 (.float 12 (.float 13 (.float 15 (.float 18 (.float 19 (.float 22 (.float 23 (.one 14 (.one 16 (.float 17 (.one 20 (.one 21 (.one 24 (.one 25 (.float 26 (.float 27 (.float 28 (.float 29 (.one 30 (.float 31 (.float 32 .done))))))))))))))))))))))))))))))))) (by kernel_rfl) (by kernel_rfl) (fun _ _ d _ _ h => by cases d <;> exact h) ⟨HB28.out.drew, K0_28.out.drew, K1_28.out.drew, K2_28.out.drew⟩ ?_
  obtain ⟨d29, hdr, hbd⟩ : ∃ d, d = d27.drew ∧ Below d27.heap.size d27 d := ⟨_, rfl, (Below.refl _ _).drew⟩
  rw [← hdr]
  clear hdr
  have hbc := hbd
  have HB30 := Lib.hid (below_then HB28.out hbc (Nat.le_refl _))
  have HR0_30 := Lib.hid ((HR0_28.out.below hbc).lt)
  have HR1_30 := Lib.hid ((HR1_28.out.below hbc).lt)
  have HR2_30 := Lib.hid ((HR2_28.out.below hbc).lt)
  have K0_30 := Lib.hid (K0_28.out.after hbc)
  have K1_30 := Lib.hid (K1_28.out.after hbc)
  have K2_30 := Lib.hid (K2_28.out.after hbc)
  have Rp1_30 := Lib.hid ((Rp1_28.out.below hbc).lt)
  have Rp2_30 := Lib.hid ((Rp2_28.out.below hbc).lt)
  have Rp3_30 := Lib.hid ((Rp3_28.out.below hbc).lt)
  have Rp4_30 := Lib.hid ((Rp4_28.out.below hbc).lt)
  have Rp5_30 := Lib.hid ((Rp5_28.out.below hbc).lt)
  have Rp6_30 := Lib.hid ((Rp6_28.out.below hbc).lt)
  clear hbc HB28 HR0_28 HR1_28 HR2_28 K0_28 K1_28 K2_28 Rp1_28 Rp2_28 Rp3_28 Rp4_28 Rp5_28 Rp6_28 hbd
  repeat (first
    | (refine wpTr_fskip (by simp only [List.getElem?_toArray, List.getElem?_cons_zero, List.getElem?_cons_succ]; rfl) (by rfl) ?_
       simp only [Act.put, List.setIfInBounds_toArray, List.set_cons_zero, List.set_cons_succ])
    | (refine wpTr_float (v := ?_) (by simp only [List.getElem?_toArray, List.getElem?_cons_zero, List.getElem?_cons_succ]; rfl) (by rfl) (fun w' hS => ?_) ?_
       rotate_left
       (obtain ⟨hSb, hSb0, hSb1, hSb2⟩ := hS; have eSb0 := hSb0.cell 0; have lSb0 := hSb0.lt; simp at eSb0; have eSb1 := hSb1.cell 0; have lSb1 := hSb1.lt; simp at eSb1; have eSb2 := hSb2.cell 0; have lSb2 := hSb2.lt; simp at eSb2; go_simp; first | done | rfl)
       simp only [Act.put, List.setIfInBounds_toArray, List.set_cons_zero, List.set_cons_succ]))
  refine wpTr_one ?_
  refine stepTr_K (by simp only [List.getElem?_toArray, List.getElem?_cons_zero, List.getElem?_cons_succ]; rfl) (by rfl) (fun K hK => ?_)
  go_simp
  refine (and_any A0 A1 c0 c1 l0 l1 _ HR0_30.out HR1_30.out (by omega) (by omega)).mono ?_
  rintro e w31 ⟨At1, ct1, rt1, rfl, hc, hh, hr, hb⟩
  have hbc := hb
  have HB32 := Lib.hid (below_then HB30.out hbc (Nat.le_refl _))
  have HR0_32 := Lib.hid ((HR0_30.out.below hbc).lt)
  have HR1_32 := Lib.hid ((HR1_30.out.below hbc).lt)
  have HR2_32 := Lib.hid ((HR2_30.out.below hbc).lt)
  have K0_32 := Lib.hid (K0_30.out.after hbc)
  have K1_32 := Lib.hid (K1_30.out.after hbc)
  have K2_32 := Lib.hid (K2_30.out.after hbc)
  have Rp1_32 := Lib.hid ((Rp1_30.out.below hbc).lt)
  have Rp2_32 := Lib.hid ((Rp2_30.out.below hbc).lt)
  have Rp3_32 := Lib.hid ((Rp3_30.out.below hbc).lt)
  have Rp4_32 := Lib.hid ((Rp4_30.out.below hbc).lt)
  have Rp5_32 := Lib.hid ((Rp5_30.out.below hbc).lt)
  have Rp6_32 := Lib.hid ((Rp6_30.out.below hbc).lt)
  have Rt1_32 := Lib.hid (hr)
  clear hbc HB30 HR0_30 HR1_30 HR2_30 K0_30 K1_30 K2_30 Rp1_30 Rp2_30 Rp3_30 Rp4_30 Rp5_30 Rp6_30 hb hr
  have Ct1 := Lib.hid hc
  have Mt1 := Lib.hid hh
  clear hc hh
  refine hK.out _ _ ⟨HB32.out, K0_32.out, K1_32.out, K2_32.out⟩ ?_
  clear hK K
  try simp only [Act.put, List.setIfInBounds_toArray, List.set_cons_zero, List.set_cons_succ]
  refine wpTr_one ?_
  refine stepTr_K (by simp only [List.getElem?_toArray, List.getElem?_cons_zero, List.getElem?_cons_succ]; rfl) (by rfl) (fun K hK => ?_)
  go_simp
  refine (subset_any At1 A0 ct1 c0 rt1 l0 _ Rt1_32.out HR0_32.out (by have := can_len Ct1.out; omega) (by omega) true ⟨fun _ x hx => ((Mt1.out x).1 hx).1, fun _ => rfl⟩).mono ?_
  rintro e w33 ⟨rfl, hb⟩
  have hbc := hb
  have HB34 := Lib.hid (below_then HB32.out hbc (Nat.le_refl _))
  have HR0_34 := Lib.hid ((HR0_32.out.below hbc).lt)
  have HR1_34 := Lib.hid ((HR1_32.out.below hbc).lt)
  have HR2_34 := Lib.hid ((HR2_32.out.below hbc).lt)
  have K0_34 := Lib.hid (K0_32.out.after hbc)
  have K1_34 := Lib.hid (K1_32.out.after hbc)
  have K2_34 := Lib.hid (K2_32.out.after hbc)
  have Rp1_34 := Lib.hid ((Rp1_32.out.below hbc).lt)
  have Rp2_34 := Lib.hid ((Rp2_32.out.below hbc).lt)
  have Rp3_34 := Lib.hid ((Rp3_32.out.below hbc).lt)
  have Rp4_34 := Lib.hid ((Rp4_32.out.below hbc).lt)
  have Rp5_34 := Lib.hid ((Rp5_32.out.below hbc).lt)
  have Rp6_34 := Lib.hid ((Rp6_32.out.below hbc).lt)
  have Rt1_34 := Lib.hid ((Rt1_32.out.below hbc).lt)
  clear hbc HB32 HR0_32 HR1_32 HR2_32 K0_32 K1_32 K2_32 Rp1_32 Rp2_32 Rp3_32 Rp4_32 Rp5_32 Rp6_32 Rt1_32 hb
  refine hK.out _ _ ⟨HB34.out, K0_34.out, K1_34.out, K2_34.out⟩ ?_
  clear hK K
  try simp only [Act.put, List.setIfInBounds_toArray, List.set_cons_zero, List.set_cons_succ]
  repeat (first
    | (refine wpTr_fskip (by simp only [List.getElem?_toArray, List.getElem?_cons_zero, List.getElem?_cons_succ]; rfl) (by rfl) ?_
       simp only [Act.put, List.setIfInBounds_toArray, List.set_cons_zero, List.set_cons_succ])
    | (refine wpTr_float (v := ?_) (by simp only [List.getElem?_toArray, List.getElem?_cons_zero, List.getElem?_cons_succ]; rfl) (by rfl) (fun w' hS => ?_) ?_
       rotate_left
       (obtain ⟨hSb, hSb0, hSb1, hSb2⟩ := hS; have eSb0 := hSb0.cell 0; have lSb0 := hSb0.lt; simp at eSb0; have eSb1 := hSb1.cell 0; have lSb1 := hSb1.lt; simp at eSb1; have eSb2 := hSb2.cell 0; have lSb2 := hSb2.lt; simp at eSb2; go_simp; first | done | rfl)
       simp only [Act.put, List.setIfInBounds_toArray, List.set_cons_zero, List.set_cons_succ]))
  refine wpTr_one ?_
  refine stepTr_K (by simp only [List.getElem?_toArray, List.getElem?_cons_zero, List.getElem?_cons_succ]; rfl) (by rfl) (fun K hK => ?_)
  go_simp
  refine (or_any A0 A1 c0 c1 l0 l1 _ HR0_34.out HR1_34.out (by omega) (by omega)).mono ?_
  rintro e w35 ⟨At2, ct2, rt2, rfl, hc, hh, hr, hb⟩
  have hbc := hb
  have HB36 := Lib.hid (below_then HB34.out hbc (Nat.le_refl _))
  have HR0_36 := Lib.hid ((HR0_34.out.below hbc).lt)
  have HR1_36 := Lib.hid ((HR1_34.out.below hbc).lt)
  have HR2_36 := Lib.hid ((HR2_34.out.below hbc).lt)
  have K0_36 := Lib.hid (K0_34.out.after hbc)
  have K1_36 := Lib.hid (K1_34.out.after hbc)
  have K2_36 := Lib.hid (K2_34.out.after hbc)
  have Rp1_36 := Lib.hid ((Rp1_34.out.below hbc).lt)
  have Rp2_36 := Lib.hid ((Rp2_34.out.below hbc).lt)
  have Rp3_36 := Lib.hid ((Rp3_34.out.below hbc).lt)
  have Rp4_36 := Lib.hid ((Rp4_34.out.below hbc).lt)
  have Rp5_36 := Lib.hid ((Rp5_34.out.below hbc).lt)
  have Rp6_36 := Lib.hid ((Rp6_34.out.below hbc).lt)
  have Rt1_36 := Lib.hid ((Rt1_34.out.below hbc).lt)
  have Rt2_36 := Lib.hid (hr)
  clear hbc HB34 HR0_34 HR1_34 HR2_34 K0_34 K1_34 K2_34 Rp1_34 Rp2_34 Rp3_34 Rp4_34 Rp5_34 Rp6_34 Rt1_34 hb hr
  have Ct2 := Lib.hid hc
  have Mt2 := Lib.hid hh
  clear hc hh
  refine hK.out _ _ ⟨HB36.out, K0_36.out, K1_36.out, K2_36.out⟩ ?_
  clear hK K
  try simp only [Act.put, List.setIfInBounds_toArray, List.set_cons_zero, List.set_cons_succ]
  refine wpTr_one ?_
  refine stepTr_K (by simp only [List.getElem?_toArray, List.getElem?_cons_zero, List.getElem?_cons_succ]; rfl) (by rfl) (fun K hK => ?_)
  go_simp
  refine (subset_any A0 At2 c0 ct2 l0 rt2 _ HR0_36.out Rt2_36.out (by omega) (by have := can_len Ct2.out; omega) true ⟨fun _ x hx => (Mt2.out x).2 (.inl hx), fun _ => rfl⟩).mono ?_
  rintro e w37 ⟨rfl, hb⟩
  have hbc := hb
  have HB38 := Lib.hid (below_then HB36.out hbc (Nat.le_refl _))
  have HR0_38 := Lib.hid ((HR0_36.out.below hbc).lt)
  have HR1_38 := Lib.hid ((HR1_36.out.below hbc).lt)
  have HR2_38 := Lib.hid ((HR2_36.out.below hbc).lt)
  have K0_38 := Lib.hid (K0_36.out.after hbc)
  have K1_38 := Lib.hid (K1_36.out.after hbc)
  have K2_38 := Lib.hid (K2_36.out.after hbc)
  have Rp1_38 := Lib.hid ((Rp1_36.out.below hbc).lt)
  have Rp2_38 := Lib.hid ((Rp2_36.out.below hbc).lt)
  have Rp3_38 := Lib.hid ((Rp3_36.out.below hbc).lt)
  have Rp4_38 := Lib.hid ((Rp4_36.out.below hbc).lt)
  have Rp5_38 := Lib.hid ((Rp5_36.out.below hbc).lt)
  have Rp6_38 := Lib.hid ((Rp6_36.out.below hbc).lt)
  have Rt1_38 := Lib.hid ((Rt1_36.out.below hbc).lt)
  have Rt2_38 := Lib.hid ((Rt2_36.out.below hbc).lt)
  clear hbc HB36 HR0_36 HR1_36 HR2_36 K0_36 K1_36 K2_36 Rp1_36 Rp2_36 Rp3_36 Rp4_36 Rp5_36 Rp6_36 Rt1_36 Rt2_36 hb
  refine hK.out _ _ ⟨HB38.out, K0_38.out, K1_38.out, K2_38.out⟩ ?_
  clear hK K
  try simp only [Act.put, List.setIfInBounds_toArray, List.set_cons_zero, List.set_cons_succ]
  repeat (first
    | (refine wpTr_fskip (by simp only [List.getElem?_toArray, List.getElem?_cons_zero, List.getElem?_cons_succ]; rfl) (by rfl) ?_
       simp only [Act.put, List.setIfInBounds_toArray, List.set_cons_zero, List.set_cons_succ])
    | (refine wpTr_float (v := ?_) (by simp only [List.getElem?_toArray, List.getElem?_cons_zero, List.getElem?_cons_succ]; rfl) (by rfl) (fun w' hS => ?_) ?_
       rotate_left
       (obtain ⟨hSb, hSb0, hSb1, hSb2⟩ := hS; have eSb0 := hSb0.cell 0; have lSb0 := hSb0.lt; simp at eSb0; have eSb1 := hSb1.cell 0; have lSb1 := hSb1.lt; simp at eSb1; have eSb2 := hSb2.cell 0; have lSb2 := hSb2.lt; simp at eSb2; go_simp; first | done | rfl)
       simp only [Act.put, List.setIfInBounds_toArray, List.set_cons_zero, List.set_cons_succ]))
  refine wpTr_one ?_
  refine stepTr_K (by simp only [List.getElem?_toArray, List.getElem?_cons_zero, List.getElem?_cons_succ]; rfl) (by rfl) (fun K hK => ?_)
  go_simp
  refine (count_any A0 c0 l0 _ HR0_38.out (by omega) Na HCA.out).mono ?_
  rintro e w39 ⟨rfl, hb⟩
  have hbc := hb
  have HB40 := Lib.hid (below_then HB38.out hbc (Nat.le_refl _))
  have HR0_40 := Lib.hid ((HR0_38.out.below hbc).lt)
  have HR1_40 := Lib.hid ((HR1_38.out.below hbc).lt)
  have HR2_40 := Lib.hid ((HR2_38.out.below hbc).lt)
  have K0_40 := Lib.hid (K0_38.out.after hbc)
  have K1_40 := Lib.hid (K1_38.out.after hbc)
  have K2_40 := Lib.hid (K2_38.out.after hbc)
  have Rp1_40 := Lib.hid ((Rp1_38.out.below hbc).lt)
  have Rp2_40 := Lib.hid ((Rp2_38.out.below hbc).lt)
  have Rp3_40 := Lib.hid ((Rp3_38.out.below hbc).lt)
  have Rp4_40 := Lib.hid ((Rp4_38.out.below hbc).lt)
  have Rp5_40 := Lib.hid ((Rp5_38.out.below hbc).lt)
  have Rp6_40 := Lib.hid ((Rp6_38.out.below hbc).lt)
  have Rt1_40 := Lib.hid ((Rt1_38.out.below hbc).lt)
  have Rt2_40 := Lib.hid ((Rt2_38.out.below hbc).lt)
  clear hbc HB38 HR0_38 HR1_38 HR2_38 K0_38 K1_38 K2_38 Rp1_38 Rp2_38 Rp3_38 Rp4_38 Rp5_38 Rp6_38 Rt1_38 Rt2_38 hb
  refine hK.out _ _ ⟨HB40.out, K0_40.out, K1_40.out, K2_40.out⟩ ?_
  clear hK K
  try simp only [Act.put, List.setIfInBounds_toArray, List.set_cons_zero, List.set_cons_succ]
  refine wpTr_one ?_
  refine stepTr_K (by simp only [List.getElem?_toArray, List.getElem?_cons_zero, List.getElem?_cons_succ]; rfl) (by rfl) (fun K hK => ?_)
  go_simp
  refine (count_any A1 c1 l1 _ HR1_40.out (by omega) Nb HCB.out).mono ?_
  rintro e w41 ⟨rfl, hb⟩
  have hbc := hb
  have HB42 := Lib.hid (below_then HB40.out hbc (Nat.le_refl _))
  have HR0_42 := Lib.hid ((HR0_40.out.below hbc).lt)
  have HR1_42 := Lib.hid ((HR1_40.out.below hbc).lt)
  have HR2_42 := Lib.hid ((HR2_40.out.below hbc).lt)
  have K0_42 := Lib.hid (K0_40.out.after hbc)
  have K1_42 := Lib.hid (K1_40.out.after hbc)
  have K2_42 := Lib.hid (K2_40.out.after hbc)
  have Rp1_42 := Lib.hid ((Rp1_40.out.below hbc).lt)
  have Rp2_42 := Lib.hid ((Rp2_40.out.below hbc).lt)
  have Rp3_42 := Lib.hid ((Rp3_40.out.below hbc).lt)
  have Rp4_42 := Lib.hid ((Rp4_40.out.below hbc).lt)
  have Rp5_42 := Lib.hid ((Rp5_40.out.below hbc).lt)
  have Rp6_42 := Lib.hid ((Rp6_40.out.below hbc).lt)
  have Rt1_42 := Lib.hid ((Rt1_40.out.below hbc).lt)
  have Rt2_42 := Lib.hid ((Rt2_40.out.below hbc).lt)
  clear hbc HB40 HR0_40 HR1_40 HR2_40 K0_40 K1_40 K2_40 Rp1_40 Rp2_40 Rp3_40 Rp4_40 Rp5_40 Rp6_40 Rt1_40 Rt2_40 hb
  refine hK.out _ _ ⟨HB42.out, K0_42.out, K1_42.out, K2_42.out⟩ ?_
  clear hK K
  try simp only [Act.put, List.setIfInBounds_toArray, List.set_cons_zero, List.set_cons_succ]
  repeat (first
    | (refine wpTr_fskip (by simp only [List.getElem?_toArray, List.getElem?_cons_zero, List.getElem?_cons_succ]; rfl) (by rfl) ?_
       simp only [Act.put, List.setIfInBounds_toArray, List.set_cons_zero, List.set_cons_succ])
    | (refine wpTr_float (v := ?_) (by simp only [List.getElem?_toArray, List.getElem?_cons_zero, List.getElem?_cons_succ]; rfl) (by rfl) (fun w' hS => ?_) ?_
       rotate_left
       (obtain ⟨hSb, hSb0, hSb1, hSb2⟩ := hS; have eSb0 := hSb0.cell 0; have lSb0 := hSb0.lt; simp at eSb0; have eSb1 := hSb1.cell 0; have lSb1 := hSb1.lt; simp at eSb1; have eSb2 := hSb2.cell 0; have lSb2 := hSb2.lt; simp at eSb2; go_simp; first | done | rfl)
       simp only [Act.put, List.setIfInBounds_toArray, List.set_cons_zero, List.set_cons_succ]))
  refine wpTr_one ?_
  refine stepTr_K (by simp only [List.getElem?_toArray, List.getElem?_cons_zero, List.getElem?_cons_succ]; rfl) (by rfl) (fun K hK => ?_)
  go_simp
  refine (or_any A0 A1 c0 c1 l0 l1 _ HR0_42.out HR1_42.out (by omega) (by omega)).mono ?_
  rintro e w43 ⟨At3, ct3, rt3, rfl, hc, hh, hr, hb⟩
  have hbc := hb
  have HB44 := Lib.hid (below_then HB42.out hbc (Nat.le_refl _))
  have HR0_44 := Lib.hid ((HR0_42.out.below hbc).lt)
  have HR1_44 := Lib.hid ((HR1_42.out.below hbc).lt)
  have HR2_44 := Lib.hid ((HR2_42.out.below hbc).lt)
  have K0_44 := Lib.hid (K0_42.out.after hbc)
  have K1_44 := Lib.hid (K1_42.out.after hbc)
  have K2_44 := Lib.hid (K2_42.out.after hbc)
  have Rp1_44 := Lib.hid ((Rp1_42.out.below hbc).lt)
  have Rp2_44 := Lib.hid ((Rp2_42.out.below hbc).lt)
  have Rp3_44 := Lib.hid ((Rp3_42.out.below hbc).lt)
  have Rp4_44 := Lib.hid ((Rp4_42.out.below hbc).lt)
  have Rp5_44 := Lib.hid ((Rp5_42.out.below hbc).lt)
  have Rp6_44 := Lib.hid ((Rp6_42.out.below hbc).lt)
  have Rt1_44 := Lib.hid ((Rt1_42.out.below hbc).lt)
  have Rt2_44 := Lib.hid ((Rt2_42.out.below hbc).lt)
  have Rt3_44 := Lib.hid (hr)
  clear hbc HB42 HR0_42 HR1_42 HR2_42 K0_42 K1_42 K2_42 Rp1_42 Rp2_42 Rp3_42 Rp4_42 Rp5_42 Rp6_42 Rt1_42 Rt2_42 hb hr
  have Ct3 := Lib.hid hc
  have Mt3 := Lib.hid hh
  clear hc hh
  obtain ⟨No, hNo⟩ : ∃ N, cardS rt3 = N := ⟨_, rfl⟩
  have hb3 := cardS_bd rt3
  rw [hNo] at hb3
  have HNO := Lib.hid hNo
  obtain ⟨c1', c2'⟩ := hb3
  clear hNo
  refine hK.out _ _ ⟨HB44.out, K0_44.out, K1_44.out, K2_44.out⟩ ?_
  clear hK K
  try simp only [Act.put, List.setIfInBounds_toArray, List.set_cons_zero, List.set_cons_succ]
  refine wpTr_one ?_
  refine stepTr_K (by simp only [List.getElem?_toArray, List.getElem?_cons_zero, List.getElem?_cons_succ]; rfl) (by rfl) (fun K hK => ?_)
  go_simp
  refine (count_any At3 ct3 rt3 _ Rt3_44.out (by have := can_len Ct3.out; omega) No (fun r h1 h2 => (count_card h1 h2).trans HNO.out)).mono ?_
  rintro e w45 ⟨rfl, hb⟩
  have hbc := hb
  have HB46 := Lib.hid (below_then HB44.out hbc (Nat.le_refl _))
  have HR0_46 := Lib.hid ((HR0_44.out.below hbc).lt)
  have HR1_46 := Lib.hid ((HR1_44.out.below hbc).lt)
  have HR2_46 := Lib.hid ((HR2_44.out.below hbc).lt)
  have K0_46 := Lib.hid (K0_44.out.after hbc)
  have K1_46 := Lib.hid (K1_44.out.after hbc)
  have K2_46 := Lib.hid (K2_44.out.after hbc)
  have Rp1_46 := Lib.hid ((Rp1_44.out.below hbc).lt)
  have Rp2_46 := Lib.hid ((Rp2_44.out.below hbc).lt)
  have Rp3_46 := Lib.hid ((Rp3_44.out.below hbc).lt)
  have Rp4_46 := Lib.hid ((Rp4_44.out.below hbc).lt)
  have Rp5_46 := Lib.hid ((Rp5_44.out.below hbc).lt)
  have Rp6_46 := Lib.hid ((Rp6_44.out.below hbc).lt)
  have Rt1_46 := Lib.hid ((Rt1_44.out.below hbc).lt)
  have Rt2_46 := Lib.hid ((Rt2_44.out.below hbc).lt)
  have Rt3_46 := Lib.hid ((Rt3_44.out.below hbc).lt)
  clear hbc HB44 HR0_44 HR1_44 HR2_44 K0_44 K1_44 K2_44 Rp1_44 Rp2_44 Rp3_44 Rp4_44 Rp5_44 Rp6_44 Rt1_44 Rt2_44 Rt3_44 hb
  refine hK.out _ _ ⟨HB46.out, K0_46.out, K1_46.out, K2_46.out⟩ ?_
  clear hK K
  try simp only [Act.put, List.setIfInBounds_toArray, List.set_cons_zero, List.set_cons_succ]
  refine wpTr_one ?_
  refine stepTr_K (by simp only [List.getElem?_toArray, List.getElem?_cons_zero, List.getElem?_cons_succ]; rfl) (by rfl) (fun K hK => ?_)
  go_simp
  refine (and_any A0 A1 c0 c1 l0 l1 _ HR0_46.out HR1_46.out (by omega) (by omega)).mono ?_
  rintro e w47 ⟨At4, ct4, rt4, rfl, hc, hh, hr, hb⟩
  have hbc := hb
  have HB48 := Lib.hid (below_then HB46.out hbc (Nat.le_refl _))
  have HR0_48 := Lib.hid ((HR0_46.out.below hbc).lt)
  have HR1_48 := Lib.hid ((HR1_46.out.below hbc).lt)
  have HR2_48 := Lib.hid ((HR2_46.out.below hbc).lt)
  have K0_48 := Lib.hid (K0_46.out.after hbc)
  have K1_48 := Lib.hid (K1_46.out.after hbc)
  have K2_48 := Lib.hid (K2_46.out.after hbc)
  have Rp1_48 := Lib.hid ((Rp1_46.out.below hbc).lt)
  have Rp2_48 := Lib.hid ((Rp2_46.out.below hbc).lt)
  have Rp3_48 := Lib.hid ((Rp3_46.out.below hbc).lt)
  have Rp4_48 := Lib.hid ((Rp4_46.out.below hbc).lt)
  have Rp5_48 := Lib.hid ((Rp5_46.out.below hbc).lt)
  have Rp6_48 := Lib.hid ((Rp6_46.out.below hbc).lt)
  have Rt1_48 := Lib.hid ((Rt1_46.out.below hbc).lt)
  have Rt2_48 := Lib.hid ((Rt2_46.out.below hbc).lt)
  have Rt3_48 := Lib.hid ((Rt3_46.out.below hbc).lt)
  have Rt4_48 := Lib.hid (hr)
  clear hbc HB46 HR0_46 HR1_46 HR2_46 K0_46 K1_46 K2_46 Rp1_46 Rp2_46 Rp3_46 Rp4_46 Rp5_46 Rp6_46 Rt1_46 Rt2_46 Rt3_46 hb hr
  have Ct4 := Lib.hid hc
  have Mt4 := Lib.hid hh
  clear hc hh
  obtain ⟨Nn, hNn⟩ : ∃ N, cardS rt4 = N := ⟨_, rfl⟩
  have hb4 := cardS_bd rt4
  rw [hNn] at hb4
  have HNN := Lib.hid hNn
  have hsum : (Na + Nb == No + Nn) = true := by
    have := cardS_oa Mt3.out Mt4.out
    rw [HNA.out, HNB.out, HNO.out, hNn] at this
    simp [this]
  obtain ⟨d1, d2⟩ := hb4
  have k2 : IntKind.i64.wrap (No + Nn) = No + Nn := IntWalk.i64_in _ (by omega)
  clear hNn
  refine hK.out _ _ ⟨HB48.out, K0_48.out, K1_48.out, K2_48.out⟩ ?_
  clear hK K
  try simp only [Act.put, List.setIfInBounds_toArray, List.set_cons_zero, List.set_cons_succ]
  refine wpTr_one ?_
  refine stepTr_K (by simp only [List.getElem?_toArray, List.getElem?_cons_zero, List.getElem?_cons_succ]; rfl) (by rfl) (fun K hK => ?_)
  go_simp
  refine (count_any At4 ct4 rt4 _ Rt4_48.out (by have := can_len Ct4.out; omega) Nn (fun r h1 h2 => (count_card h1 h2).trans HNN.out)).mono ?_
  rintro e w49 ⟨rfl, hb⟩
  have hbc := hb
  have HB50 := Lib.hid (below_then HB48.out hbc (Nat.le_refl _))
  have HR0_50 := Lib.hid ((HR0_48.out.below hbc).lt)
  have HR1_50 := Lib.hid ((HR1_48.out.below hbc).lt)
  have HR2_50 := Lib.hid ((HR2_48.out.below hbc).lt)
  have K0_50 := Lib.hid (K0_48.out.after hbc)
  have K1_50 := Lib.hid (K1_48.out.after hbc)
  have K2_50 := Lib.hid (K2_48.out.after hbc)
  have Rp1_50 := Lib.hid ((Rp1_48.out.below hbc).lt)
  have Rp2_50 := Lib.hid ((Rp2_48.out.below hbc).lt)
  have Rp3_50 := Lib.hid ((Rp3_48.out.below hbc).lt)
  have Rp4_50 := Lib.hid ((Rp4_48.out.below hbc).lt)
  have Rp5_50 := Lib.hid ((Rp5_48.out.below hbc).lt)
  have Rp6_50 := Lib.hid ((Rp6_48.out.below hbc).lt)
  have Rt1_50 := Lib.hid ((Rt1_48.out.below hbc).lt)
  have Rt2_50 := Lib.hid ((Rt2_48.out.below hbc).lt)
  have Rt3_50 := Lib.hid ((Rt3_48.out.below hbc).lt)
  have Rt4_50 := Lib.hid ((Rt4_48.out.below hbc).lt)
  clear hbc HB48 HR0_48 HR1_48 HR2_48 K0_48 K1_48 K2_48 Rp1_48 Rp2_48 Rp3_48 Rp4_48 Rp5_48 Rp6_48 Rt1_48 Rt2_48 Rt3_48 Rt4_48 hb
  refine hK.out _ _ ⟨HB50.out, K0_50.out, K1_50.out, K2_50.out⟩ ?_
  clear hK K
  try simp only [Act.put, List.setIfInBounds_toArray, List.set_cons_zero, List.set_cons_succ]
  repeat (first
    | (refine wpTr_fskip (by simp only [List.getElem?_toArray, List.getElem?_cons_zero, List.getElem?_cons_succ]; rfl) (by rfl) ?_
       simp only [Act.put, List.setIfInBounds_toArray, List.set_cons_zero, List.set_cons_succ])
    | (refine wpTr_float (v := ?_) (by simp only [List.getElem?_toArray, List.getElem?_cons_zero, List.getElem?_cons_succ]; rfl) (by rfl) (fun w' hS => ?_) ?_
       rotate_left
       (obtain ⟨hSb, hSb0, hSb1, hSb2⟩ := hS; have eSb0 := hSb0.cell 0; have lSb0 := hSb0.lt; simp at eSb0; have eSb1 := hSb1.cell 0; have lSb1 := hSb1.lt; simp at eSb1; have eSb2 := hSb2.cell 0; have lSb2 := hSb2.lt; simp at eSb2; go_simp; first | done | rfl)
       simp only [Act.put, List.setIfInBounds_toArray, List.set_cons_zero, List.set_cons_succ]))
  refine wpTr_one ?_
  refine stepTr_K (by simp only [List.getElem?_toArray, List.getElem?_cons_zero, List.getElem?_cons_succ]; rfl) (by rfl) (fun K hK => ?_)
  go_simp
  refine (alive_any _ (HD.out.below HB50.out) (HM.out.below HB50.out)).mono ?_
  rintro e w51 ⟨rfl, hb⟩
  have hbc := hb
  have HB52 := Lib.hid (below_then HB50.out hbc (Nat.le_refl _))
  have HR0_52 := Lib.hid ((HR0_50.out.below hbc).lt)
  have HR1_52 := Lib.hid ((HR1_50.out.below hbc).lt)
  have HR2_52 := Lib.hid ((HR2_50.out.below hbc).lt)
  have K0_52 := Lib.hid (K0_50.out.after hbc)
  have K1_52 := Lib.hid (K1_50.out.after hbc)
  have K2_52 := Lib.hid (K2_50.out.after hbc)
  have Rp1_52 := Lib.hid ((Rp1_50.out.below hbc).lt)
  have Rp2_52 := Lib.hid ((Rp2_50.out.below hbc).lt)
  have Rp3_52 := Lib.hid ((Rp3_50.out.below hbc).lt)
  have Rp4_52 := Lib.hid ((Rp4_50.out.below hbc).lt)
  have Rp5_52 := Lib.hid ((Rp5_50.out.below hbc).lt)
  have Rp6_52 := Lib.hid ((Rp6_50.out.below hbc).lt)
  have Rt1_52 := Lib.hid ((Rt1_50.out.below hbc).lt)
  have Rt2_52 := Lib.hid ((Rt2_50.out.below hbc).lt)
  have Rt3_52 := Lib.hid ((Rt3_50.out.below hbc).lt)
  have Rt4_52 := Lib.hid ((Rt4_50.out.below hbc).lt)
  clear hbc HB50 HR0_50 HR1_50 HR2_50 K0_50 K1_50 K2_50 Rp1_50 Rp2_50 Rp3_50 Rp4_50 Rp5_50 Rp6_50 Rt1_50 Rt2_50 Rt3_50 Rt4_50 hb
  refine hK.out _ _ ⟨HB52.out, K0_52.out, K1_52.out, K2_52.out⟩ ?_
  clear hK K
  try simp only [Act.put, List.setIfInBounds_toArray, List.set_cons_zero, List.set_cons_succ]
  repeat (first
    | (refine wpTr_fskip (by simp only [List.getElem?_toArray, List.getElem?_cons_zero, List.getElem?_cons_succ]; rfl) (by rfl) ?_
       simp only [Act.put, List.setIfInBounds_toArray, List.set_cons_zero, List.set_cons_succ])
    | (refine wpTr_float (v := ?_) (by simp only [List.getElem?_toArray, List.getElem?_cons_zero, List.getElem?_cons_succ]; rfl) (by rfl) (fun w' hS => ?_) ?_
       rotate_left
       (obtain ⟨hSb, hSb0, hSb1, hSb2⟩ := hS; have eSb0 := hSb0.cell 0; have lSb0 := hSb0.lt; simp at eSb0; have eSb1 := hSb1.cell 0; have lSb1 := hSb1.lt; simp at eSb1; have eSb2 := hSb2.cell 0; have lSb2 := hSb2.lt; simp at eSb2; go_simp; first | done | rfl)
       simp only [Act.put, List.setIfInBounds_toArray, List.set_cons_zero, List.set_cons_succ]))
  refine wpTr_done ?_
  go_wp2
  go_ret
  exact ⟨rfl, HB52.out⟩
set_option maxRecDepth 100000 in
set_option maxHeartbeats 4000000 in
theorem walk (w : World) (hd : Digs w) (hm : MaxL w) (A0 : Option Addr) (c0 : Nat) (l0 : List Rg) (lc0 : l0.length ≤ c0) (lm0 : c0 ≤ maxLen) (hR0 : Row w w.heap.size A0 (rgs l0)) (A1 : Option Addr) (c1 : Nat) (l1 : List Rg) (lc1 : l1.length ≤ c1) (lm1 : c1 ≤ maxLen) (hR1 : Row w w.heap.size A1 (rgs l1)) (A2 : Option Addr) (c2 : Nat) (l2 : List Rg) (lc2 : l2.length ≤ c2) (lm2 : c2 ≤ maxLen) (hR2 : Row w w.heap.size A2 (rgs l2)) :
    Calls Tryd.prog 10 #[.agg #[.slice A0 l0.length c0], .agg #[.slice A1 l1.length c1], .agg #[.slice A2 l2.length c2]] w fun e w' => e = .returned (.bool true) ∧ Below w.heap.size w w' := by
  obtain ⟨bS, hS⟩ : ∃ b, (decide ((l0.length : Int) ≤ 12) && decide ((l1.length : Int) ≤ 12)) = b := ⟨_, rfl⟩
  have HS := Lib.hid hS
  obtain ⟨bT, hT⟩ : ∃ b, decide ((l2.length : Int) ≤ 12) = b := ⟨_, rfl⟩
  have HT := Lib.hid hT
  cases bS with
  | false =>
    clear hS hT
    have HD := Lib.hid hd
    have HM := Lib.hid hm
    clear hd hm
    have HB0 := Lib.hid (Below.refl w.heap.size w)
    have HR0_0 := Lib.hid hR0
    clear hR0
    have HR1_0 := Lib.hid hR1
    clear hR1
    have HR2_0 := Lib.hid hR2
    clear hR2
    go_enter Tryd.func10, Tryd.ntmps10
    go_wp2_with fail
    obtain ⟨n1, hv, hbb, hk0, hk1, hk2⟩ : ∃ v, v = (((w.alloc (.cells #[.slice A0 l0.length c0] 24)).alloc (.cells #[.slice A1 l1.length c1] 24)).alloc (.cells #[.slice A2 l2.length c2] 24)) ∧ Below w.heap.size w v ∧ Blk v (w.heap.size) 24 #[.slice A0 l0.length c0] ∧ Blk v (w.heap.size + 1) 24 #[.slice A1 l1.length c1] ∧ Blk v (w.heap.size + 1 + 1) 24 #[.slice A2 l2.length c2] :=
      ⟨_, rfl, (((Below.refl _ _).alloc (Nat.le_refl _) _).alloc (by simp; try omega) _).alloc (by simp; try omega) _, ((Blk.at_new (by simp; try omega)).alloc _).alloc _, (Blk.at_new (by simp; try omega)).alloc _, Blk.at_new (by simp; try omega)⟩
    rw [← hv]
    clear hv
    obtain ⟨b2, ha⟩ : ∃ a, a = w.heap.size + 1 + 1 := ⟨_, rfl⟩
    rw [← ha] at hk2 ⊢
    clear ha
    obtain ⟨b1, ha⟩ : ∃ a, a = w.heap.size + 1 := ⟨_, rfl⟩
    rw [← ha] at hk1 ⊢
    clear ha
    obtain ⟨b0, ha⟩ : ∃ a, a = w.heap.size := ⟨_, rfl⟩
    rw [← ha] at hk0 ⊢
    clear ha
    have hbc := hbb
    have HB2 := Lib.hid (below_then HB0.out hbc (Nat.le_refl _))
    have HR0_2 := Lib.hid ((HR0_0.out.below hbc).lt)
    have HR1_2 := Lib.hid ((HR1_0.out.below hbc).lt)
    have HR2_2 := Lib.hid ((HR2_0.out.below hbc).lt)
    have K0_2 := Lib.hid (hk0)
    have K1_2 := Lib.hid (hk1)
    have K2_2 := Lib.hid (hk2)
    clear hbc HB0 HR0_0 HR1_0 HR2_0 hbb hk0 hk1 hk2
    refine (small2_any A0 A1 _ _ c0 c1 _ _ HS.out).mono ?_
    rintro e w3 ⟨rfl, hb⟩
    have hbc := hb
    have HB4 := Lib.hid (below_then HB2.out hbc (Nat.le_refl _))
    have HR0_4 := Lib.hid ((HR0_2.out.below hbc).lt)
    have HR1_4 := Lib.hid ((HR1_2.out.below hbc).lt)
    have HR2_4 := Lib.hid ((HR2_2.out.below hbc).lt)
    have K0_4 := Lib.hid (K0_2.out.after hbc)
    have K1_4 := Lib.hid (K1_2.out.after hbc)
    have K2_4 := Lib.hid (K2_2.out.after hbc)
    clear hbc HB2 HR0_2 HR1_2 HR2_2 K0_2 K1_2 K2_2 hb
    go_wp2_with fail
    refine (alive_any _ (HD.out.below HB4.out) (HM.out.below HB4.out)).mono ?_
    rintro e w5 ⟨rfl, hb⟩
    have hbc := hb
    have HB6 := Lib.hid (below_then HB4.out hbc (Nat.le_refl _))
    have HR0_6 := Lib.hid ((HR0_4.out.below hbc).lt)
    have HR1_6 := Lib.hid ((HR1_4.out.below hbc).lt)
    have HR2_6 := Lib.hid ((HR2_4.out.below hbc).lt)
    have K0_6 := Lib.hid (K0_4.out.after hbc)
    have K1_6 := Lib.hid (K1_4.out.after hbc)
    have K2_6 := Lib.hid (K2_4.out.after hbc)
    clear hbc HB4 HR0_4 HR1_4 HR2_4 K0_4 K1_4 K2_4 hb
    go_wp2
    go_ret
    exact ⟨rfl, HB6.out⟩
  | true =>
    have hs0 : l0.length ≤ 12 := by simp at hS; omega
    have hs1 : l1.length ≤ 12 := by simp at hS; omega
    clear hS
    cases bT with
    | false =>
      clear hT
      have HD := Lib.hid hd
      have HM := Lib.hid hm
      clear hd hm
      have HB0 := Lib.hid (Below.refl w.heap.size w)
      have HR0_0 := Lib.hid hR0
      clear hR0
      have HR1_0 := Lib.hid hR1
      clear hR1
      have HR2_0 := Lib.hid hR2
      clear hR2
      go_enter Tryd.func10, Tryd.ntmps10
      go_wp2_with fail
      obtain ⟨n7, hv, hbb, hk0, hk1, hk2⟩ : ∃ v, v = (((w.alloc (.cells #[.slice A0 l0.length c0] 24)).alloc (.cells #[.slice A1 l1.length c1] 24)).alloc (.cells #[.slice A2 l2.length c2] 24)) ∧ Below w.heap.size w v ∧ Blk v (w.heap.size) 24 #[.slice A0 l0.length c0] ∧ Blk v (w.heap.size + 1) 24 #[.slice A1 l1.length c1] ∧ Blk v (w.heap.size + 1 + 1) 24 #[.slice A2 l2.length c2] :=
        ⟨_, rfl, (((Below.refl _ _).alloc (Nat.le_refl _) _).alloc (by simp; try omega) _).alloc (by simp; try omega) _, ((Blk.at_new (by simp; try omega)).alloc _).alloc _, (Blk.at_new (by simp; try omega)).alloc _, Blk.at_new (by simp; try omega)⟩
      rw [← hv]
      clear hv
      obtain ⟨b2, ha⟩ : ∃ a, a = w.heap.size + 1 + 1 := ⟨_, rfl⟩
      rw [← ha] at hk2 ⊢
      clear ha
      obtain ⟨b1, ha⟩ : ∃ a, a = w.heap.size + 1 := ⟨_, rfl⟩
      rw [← ha] at hk1 ⊢
      clear ha
      obtain ⟨b0, ha⟩ : ∃ a, a = w.heap.size := ⟨_, rfl⟩
      rw [← ha] at hk0 ⊢
      clear ha
      have hbc := hbb
      have HB8 := Lib.hid (below_then HB0.out hbc (Nat.le_refl _))
      have HR0_8 := Lib.hid ((HR0_0.out.below hbc).lt)
      have HR1_8 := Lib.hid ((HR1_0.out.below hbc).lt)
      have HR2_8 := Lib.hid ((HR2_0.out.below hbc).lt)
      have K0_8 := Lib.hid (hk0)
      have K1_8 := Lib.hid (hk1)
      have K2_8 := Lib.hid (hk2)
      clear hbc HB0 HR0_0 HR1_0 HR2_0 hbb hk0 hk1 hk2
      refine (small2_any A0 A1 _ _ c0 c1 _ _ HS.out).mono ?_
      rintro e w9 ⟨rfl, hb⟩
      have hbc := hb
      have HB10 := Lib.hid (below_then HB8.out hbc (Nat.le_refl _))
      have HR0_10 := Lib.hid ((HR0_8.out.below hbc).lt)
      have HR1_10 := Lib.hid ((HR1_8.out.below hbc).lt)
      have HR2_10 := Lib.hid ((HR2_8.out.below hbc).lt)
      have K0_10 := Lib.hid (K0_8.out.after hbc)
      have K1_10 := Lib.hid (K1_8.out.after hbc)
      have K2_10 := Lib.hid (K2_8.out.after hbc)
      clear hbc HB8 HR0_8 HR1_8 HR2_8 K0_8 K1_8 K2_8 hb
      have eK2_ := K2_10.out.cell 0
      have lK2_ := K2_10.out.lt
      simp at eK2_
      go_wp2_with fail
      clear eK2_ lK2_
      refine (small_any A2 _ c2 _ _ HT.out).mono ?_
      rintro e w11 ⟨rfl, hb⟩
      have hbc := hb
      have HB12 := Lib.hid (below_then HB10.out hbc (Nat.le_refl _))
      have HR0_12 := Lib.hid ((HR0_10.out.below hbc).lt)
      have HR1_12 := Lib.hid ((HR1_10.out.below hbc).lt)
      have HR2_12 := Lib.hid ((HR2_10.out.below hbc).lt)
      have K0_12 := Lib.hid (K0_10.out.after hbc)
      have K1_12 := Lib.hid (K1_10.out.after hbc)
      have K2_12 := Lib.hid (K2_10.out.after hbc)
      clear hbc HB10 HR0_10 HR1_10 HR2_10 K0_10 K1_10 K2_10 hb
      go_wp2_with fail
      refine (alive_any _ (HD.out.below HB12.out) (HM.out.below HB12.out)).mono ?_
      rintro e w13 ⟨rfl, hb⟩
      have hbc := hb
      have HB14 := Lib.hid (below_then HB12.out hbc (Nat.le_refl _))
      have HR0_14 := Lib.hid ((HR0_12.out.below hbc).lt)
      have HR1_14 := Lib.hid ((HR1_12.out.below hbc).lt)
      have HR2_14 := Lib.hid ((HR2_12.out.below hbc).lt)
      have K0_14 := Lib.hid (K0_12.out.after hbc)
      have K1_14 := Lib.hid (K1_12.out.after hbc)
      have K2_14 := Lib.hid (K2_12.out.after hbc)
      clear hbc HB12 HR0_12 HR1_12 HR2_12 K0_12 K1_12 K2_12 hb
      go_wp2
      go_ret
      exact ⟨rfl, HB14.out⟩
    | true =>
      have hs2 : l2.length ≤ 12 := by simp at hT; omega
      clear hT
      by_cases hsub : subP l0 l1
      · by_cases hv1 : subP l1 l0 <;> by_cases hv2 : subP l1 l2
        · exact wTT w hd hm A0 c0 l0 lc0 lm0 hR0 A1 c1 l1 lc1 lm1 hR1 A2 c2 l2 lc2 lm2 hR2 hs0 hs1 hs2 HS HT hsub hv1 hv2
        · exact wTF w hd hm A0 c0 l0 lc0 lm0 hR0 A1 c1 l1 lc1 lm1 hR1 A2 c2 l2 lc2 lm2 hR2 hs0 hs1 hs2 HS HT hsub hv1 hv2
        · exact wFT w hd hm A0 c0 l0 lc0 lm0 hR0 A1 c1 l1 lc1 lm1 hR1 A2 c2 l2 lc2 lm2 hR2 hs0 hs1 hs2 HS HT hsub hv1 hv2
        · exact wFF w hd hm A0 c0 l0 lc0 lm0 hR0 A1 c1 l1 lc1 lm1 hR1 A2 c2 l2 lc2 lm2 hR2 hs0 hs1 hs2 HS HT hsub hv1 hv2
      · exact wN w hd hm A0 c0 l0 lc0 lm0 hR0 A1 c1 l1 lc1 lm1 hR1 A2 c2 l2 lc2 lm2 hR2 hs0 hs1 hs2 HS HT hsub
end Go.Proofs.YtogfhaeohcpkjaaDoor.LOrders
