/-
  CpsetAlgebra: the walk of the law: it returns true, nothing older changes.
-/
import Derived.Test.YtogfhaeohcpkjaaDoorCsL
import Derived.Test.YtogfhaeohcpkjaaDoorTree
import Derived.Deep.QuietTactic
import Derived.BigQuiet
import Derived.IntWalk
import Derived.Outline
namespace Go.Proofs.YtogfhaeohcpkjaaDoor.LAlgebra
open Go.ChangeShapes Go.WideShapes Go.ChangeAt Go.RowKit Go.UtYtogfhaeohcpkjaaDoor Go.Joins
set_option maxRecDepth 100000 in
set_option maxHeartbeats 4000000 in
theorem walk (w : World) (hd : Digs w) (hm : MaxL w) (A0 : Option Addr) (c0 : Nat) (l0 : List Rg) (_lc0 : l0.length ≤ c0) (_lm0 : c0 ≤ maxLen) (hR0 : Row w w.heap.size A0 (rgs l0)) (A1 : Option Addr) (c1 : Nat) (l1 : List Rg) (_lc1 : l1.length ≤ c1) (_lm1 : c1 ≤ maxLen) (hR1 : Row w w.heap.size A1 (rgs l1)) (A2 : Option Addr) (c2 : Nat) (l2 : List Rg) (_lc2 : l2.length ≤ c2) (_lm2 : c2 ≤ maxLen) (hR2 : Row w w.heap.size A2 (rgs l2)) :
    Calls Tryd.prog 6 #[.agg #[.slice A0 l0.length c0], .agg #[.slice A1 l1.length c1], .agg #[.slice A2 l2.length c2]] w fun e w' => e = .returned (.bool true) ∧ Below w.heap.size w w' := by
  have HD := Lib.hid hd
  have HM := Lib.hid hm
  clear hd hm
  have HB0 := Lib.hid (Below.refl w.heap.size w)
  have HR0_0 := Lib.hid hR0
  clear hR0
  have HR1_0 := Lib.hid hR1
  clear hR1
  have HR2_0 := Lib.hid hR2
  clear hR2
  obtain ⟨bS, hS⟩ : ∃ b, (decide ((l0.length : Int) ≤ 12) && decide ((l1.length : Int) ≤ 12)) = b := ⟨_, rfl⟩
  have HS := Lib.hid hS
  obtain ⟨bT, hT⟩ : ∃ b, decide ((l2.length : Int) ≤ 12) = b := ⟨_, rfl⟩
  have HT := Lib.hid hT
  cases bS with
  | false =>
    clear hS hT
    go_enter Tryd.func6, Tryd.ntmps6
    go_wp2_with fail
    obtain ⟨n1, hv, hbb, hk0, hk1, hk2⟩ : ∃ v, v = (((w.alloc (.cells #[.slice A0 l0.length c0] 24)).alloc (.cells #[.slice A1 l1.length c1] 24)).alloc (.cells #[.slice A2 l2.length c2] 24)) ∧ Below w.heap.size w v ∧ Blk v (w.heap.size) 24 #[.slice A0 l0.length c0] ∧ Blk v (w.heap.size + 1) 24 #[.slice A1 l1.length c1] ∧ Blk v (w.heap.size + 1 + 1) 24 #[.slice A2 l2.length c2] :=
      ⟨_, rfl, (((Below.refl _ _).alloc (Nat.le_refl _) _).alloc (by simp; try omega) _).alloc (by simp; try omega) _, ((Blk.at_new (by simp; try omega)).alloc _).alloc _, (Blk.at_new (by simp; try omega)).alloc _, Blk.at_new (by simp; try omega)⟩
    rw [← hv]
    clear hv
    obtain ⟨b2, ha⟩ : ∃ a, a = w.heap.size + 1 + 1 := ⟨_, rfl⟩
    rw [← ha] at hk2 ⊢
    clear ha
    obtain ⟨b1, ha⟩ : ∃ a, a = w.heap.size + 1 := ⟨_, rfl⟩
    rw [← ha] at hk1 ⊢
    clear ha
    obtain ⟨b0, ha⟩ : ∃ a, a = w.heap.size := ⟨_, rfl⟩
    rw [← ha] at hk0 ⊢
    clear ha
    have hbc := hbb
    have HB2 := Lib.hid (below_then HB0.out hbc (Nat.le_refl _))
    have HR0_2 := Lib.hid ((HR0_0.out.below hbc).lt)
    have HR1_2 := Lib.hid ((HR1_0.out.below hbc).lt)
    have HR2_2 := Lib.hid ((HR2_0.out.below hbc).lt)
    have K0_2 := Lib.hid (hk0)
    have K1_2 := Lib.hid (hk1)
    have K2_2 := Lib.hid (hk2)
    clear hbc HB0 HR0_0 HR1_0 HR2_0 hbb hk0 hk1 hk2
    refine (small2_any A0 A1 _ _ c0 c1 _ _ HS.out).mono ?_
    rintro e w3 ⟨rfl, hb⟩
    have hbc := hb
    have HB4 := Lib.hid (below_then HB2.out hbc (Nat.le_refl _))
    have HR0_4 := Lib.hid ((HR0_2.out.below hbc).lt)
    have HR1_4 := Lib.hid ((HR1_2.out.below hbc).lt)
    have HR2_4 := Lib.hid ((HR2_2.out.below hbc).lt)
    have K0_4 := Lib.hid (K0_2.out.after hbc)
    have K1_4 := Lib.hid (K1_2.out.after hbc)
    have K2_4 := Lib.hid (K2_2.out.after hbc)
    clear hbc HB2 HR0_2 HR1_2 HR2_2 K0_2 K1_2 K2_2 hb
    go_wp2_with fail
    refine (alive_any _ (HD.out.below HB4.out) (HM.out.below HB4.out)).mono ?_
    rintro e w5 ⟨rfl, hb⟩
    have hbc := hb
    have HB6 := Lib.hid (below_then HB4.out hbc (Nat.le_refl _))
    have HR0_6 := Lib.hid ((HR0_4.out.below hbc).lt)
    have HR1_6 := Lib.hid ((HR1_4.out.below hbc).lt)
    have HR2_6 := Lib.hid ((HR2_4.out.below hbc).lt)
    have K0_6 := Lib.hid (K0_4.out.after hbc)
    have K1_6 := Lib.hid (K1_4.out.after hbc)
    have K2_6 := Lib.hid (K2_4.out.after hbc)
    clear hbc HB4 HR0_4 HR1_4 HR2_4 K0_4 K1_4 K2_4 hb
    go_wp2
    go_ret
    exact ⟨rfl, HB6.out⟩
  | true =>
    have hs0 : l0.length ≤ 12 := by simp at hS; omega
    have hs1 : l1.length ≤ 12 := by simp at hS; omega
    clear hS
    cases bT with
    | false =>
      clear hT
      go_enter Tryd.func6, Tryd.ntmps6
      go_wp2_with fail
      obtain ⟨n7, hv, hbb, hk0, hk1, hk2⟩ : ∃ v, v = (((w.alloc (.cells #[.slice A0 l0.length c0] 24)).alloc (.cells #[.slice A1 l1.length c1] 24)).alloc (.cells #[.slice A2 l2.length c2] 24)) ∧ Below w.heap.size w v ∧ Blk v (w.heap.size) 24 #[.slice A0 l0.length c0] ∧ Blk v (w.heap.size + 1) 24 #[.slice A1 l1.length c1] ∧ Blk v (w.heap.size + 1 + 1) 24 #[.slice A2 l2.length c2] :=
        ⟨_, rfl, (((Below.refl _ _).alloc (Nat.le_refl _) _).alloc (by simp; try omega) _).alloc (by simp; try omega) _, ((Blk.at_new (by simp; try omega)).alloc _).alloc _, (Blk.at_new (by simp; try omega)).alloc _, Blk.at_new (by simp; try omega)⟩
      rw [← hv]
      clear hv
      obtain ⟨b2, ha⟩ : ∃ a, a = w.heap.size + 1 + 1 := ⟨_, rfl⟩
      rw [← ha] at hk2 ⊢
      clear ha
      obtain ⟨b1, ha⟩ : ∃ a, a = w.heap.size + 1 := ⟨_, rfl⟩
      rw [← ha] at hk1 ⊢
      clear ha
      obtain ⟨b0, ha⟩ : ∃ a, a = w.heap.size := ⟨_, rfl⟩
      rw [← ha] at hk0 ⊢
      clear ha
      have hbc := hbb
      have HB8 := Lib.hid (below_then HB0.out hbc (Nat.le_refl _))
      have HR0_8 := Lib.hid ((HR0_0.out.below hbc).lt)
      have HR1_8 := Lib.hid ((HR1_0.out.below hbc).lt)
      have HR2_8 := Lib.hid ((HR2_0.out.below hbc).lt)
      have K0_8 := Lib.hid (hk0)
      have K1_8 := Lib.hid (hk1)
      have K2_8 := Lib.hid (hk2)
      clear hbc HB0 HR0_0 HR1_0 HR2_0 hbb hk0 hk1 hk2
      refine (small2_any A0 A1 _ _ c0 c1 _ _ HS.out).mono ?_
      rintro e w9 ⟨rfl, hb⟩
      have hbc := hb
      have HB10 := Lib.hid (below_then HB8.out hbc (Nat.le_refl _))
      have HR0_10 := Lib.hid ((HR0_8.out.below hbc).lt)
      have HR1_10 := Lib.hid ((HR1_8.out.below hbc).lt)
      have HR2_10 := Lib.hid ((HR2_8.out.below hbc).lt)
      have K0_10 := Lib.hid (K0_8.out.after hbc)
      have K1_10 := Lib.hid (K1_8.out.after hbc)
      have K2_10 := Lib.hid (K2_8.out.after hbc)
      clear hbc HB8 HR0_8 HR1_8 HR2_8 K0_8 K1_8 K2_8 hb
      have eK2_ := K2_10.out.cell 0
      have lK2_ := K2_10.out.lt
      simp at eK2_
      go_wp2_with fail
      clear eK2_ lK2_
      refine (small_any A2 _ c2 _ _ HT.out).mono ?_
      rintro e w11 ⟨rfl, hb⟩
      have hbc := hb
      have HB12 := Lib.hid (below_then HB10.out hbc (Nat.le_refl _))
      have HR0_12 := Lib.hid ((HR0_10.out.below hbc).lt)
      have HR1_12 := Lib.hid ((HR1_10.out.below hbc).lt)
      have HR2_12 := Lib.hid ((HR2_10.out.below hbc).lt)
      have K0_12 := Lib.hid (K0_10.out.after hbc)
      have K1_12 := Lib.hid (K1_10.out.after hbc)
      have K2_12 := Lib.hid (K2_10.out.after hbc)
      clear hbc HB10 HR0_10 HR1_10 HR2_10 K0_10 K1_10 K2_10 hb
      go_wp2_with fail
      refine (alive_any _ (HD.out.below HB12.out) (HM.out.below HB12.out)).mono ?_
      rintro e w13 ⟨rfl, hb⟩
      have hbc := hb
      have HB14 := Lib.hid (below_then HB12.out hbc (Nat.le_refl _))
      have HR0_14 := Lib.hid ((HR0_12.out.below hbc).lt)
      have HR1_14 := Lib.hid ((HR1_12.out.below hbc).lt)
      have HR2_14 := Lib.hid ((HR2_12.out.below hbc).lt)
      have K0_14 := Lib.hid (K0_12.out.after hbc)
      have K1_14 := Lib.hid (K1_12.out.after hbc)
      have K2_14 := Lib.hid (K2_12.out.after hbc)
      clear hbc HB12 HR0_12 HR1_12 HR2_12 K0_12 K1_12 K2_12 hb
      go_wp2
      go_ret
      exact ⟨rfl, HB14.out⟩
    | true =>
      have hs2 : l2.length ≤ 12 := by simp at hT; omega
      clear hT
      go_enter Tryd.func6, Tryd.ntmps6
      go_wp2_with fail
      obtain ⟨n15, hv, hbb, hk0, hk1, hk2⟩ : ∃ v, v = (((w.alloc (.cells #[.slice A0 l0.length c0] 24)).alloc (.cells #[.slice A1 l1.length c1] 24)).alloc (.cells #[.slice A2 l2.length c2] 24)) ∧ Below w.heap.size w v ∧ Blk v (w.heap.size) 24 #[.slice A0 l0.length c0] ∧ Blk v (w.heap.size + 1) 24 #[.slice A1 l1.length c1] ∧ Blk v (w.heap.size + 1 + 1) 24 #[.slice A2 l2.length c2] :=
        ⟨_, rfl, (((Below.refl _ _).alloc (Nat.le_refl _) _).alloc (by simp; try omega) _).alloc (by simp; try omega) _, ((Blk.at_new (by simp; try omega)).alloc _).alloc _, (Blk.at_new (by simp; try omega)).alloc _, Blk.at_new (by simp; try omega)⟩
      rw [← hv]
      clear hv
      obtain ⟨b2, ha⟩ : ∃ a, a = w.heap.size + 1 + 1 := ⟨_, rfl⟩
      rw [← ha] at hk2 ⊢
      clear ha
      obtain ⟨b1, ha⟩ : ∃ a, a = w.heap.size + 1 := ⟨_, rfl⟩
      rw [← ha] at hk1 ⊢
      clear ha
      obtain ⟨b0, ha⟩ : ∃ a, a = w.heap.size := ⟨_, rfl⟩
      rw [← ha] at hk0 ⊢
      clear ha
      have hbc := hbb
      have HB16 := Lib.hid (below_then HB0.out hbc (Nat.le_refl _))
      have HR0_16 := Lib.hid ((HR0_0.out.below hbc).lt)
      have HR1_16 := Lib.hid ((HR1_0.out.below hbc).lt)
      have HR2_16 := Lib.hid ((HR2_0.out.below hbc).lt)
      have K0_16 := Lib.hid (hk0)
      have K1_16 := Lib.hid (hk1)
      have K2_16 := Lib.hid (hk2)
      clear hbc HB0 HR0_0 HR1_0 HR2_0 hbb hk0 hk1 hk2
      refine (small2_any A0 A1 _ _ c0 c1 _ _ HS.out).mono ?_
      rintro e w17 ⟨rfl, hb⟩
      have hbc := hb
      have HB18 := Lib.hid (below_then HB16.out hbc (Nat.le_refl _))
      have HR0_18 := Lib.hid ((HR0_16.out.below hbc).lt)
      have HR1_18 := Lib.hid ((HR1_16.out.below hbc).lt)
      have HR2_18 := Lib.hid ((HR2_16.out.below hbc).lt)
      have K0_18 := Lib.hid (K0_16.out.after hbc)
      have K1_18 := Lib.hid (K1_16.out.after hbc)
      have K2_18 := Lib.hid (K2_16.out.after hbc)
      clear hbc HB16 HR0_16 HR1_16 HR2_16 K0_16 K1_16 K2_16 hb
      have eK2_ := K2_18.out.cell 0
      have lK2_ := K2_18.out.lt
      simp at eK2_
      go_wp2_with fail
      clear eK2_ lK2_
      refine (small_any A2 _ c2 _ _ HT.out).mono ?_
      rintro e w19 ⟨rfl, hb⟩
      have hbc := hb
      have HB20 := Lib.hid (below_then HB18.out hbc (Nat.le_refl _))
      have HR0_20 := Lib.hid ((HR0_18.out.below hbc).lt)
      have HR1_20 := Lib.hid ((HR1_18.out.below hbc).lt)
      have HR2_20 := Lib.hid ((HR2_18.out.below hbc).lt)
      have K0_20 := Lib.hid (K0_18.out.after hbc)
      have K1_20 := Lib.hid (K1_18.out.after hbc)
      have K2_20 := Lib.hid (K2_18.out.after hbc)
      clear hbc HB18 HR0_18 HR1_18 HR2_18 K0_18 K1_18 K2_18 hb
      have qF := run_field_set
      have eK0_ := K0_20.out.cell 0
      have lK0_ := K0_20.out.lt
      simp at eK0_
      go_wp2_with fail
      clear eK0_ lK0_
      refine (make_any A0 c0 l0 _ HR0_20.out (by omega)).mono ?_
      rintro e w21 ⟨Am, cm, rm, rfl, hc, hh, hr, hb⟩
      have hbc := hb
      have HB22 := Lib.hid (below_then HB20.out hbc (Nat.le_refl _))
      have HR0_22 := Lib.hid ((HR0_20.out.below hbc).lt)
      have HR1_22 := Lib.hid ((HR1_20.out.below hbc).lt)
      have HR2_22 := Lib.hid ((HR2_20.out.below hbc).lt)
      have K0_22 := Lib.hid (K0_20.out.after hbc)
      have K1_22 := Lib.hid (K1_20.out.after hbc)
      have K2_22 := Lib.hid (K2_20.out.after hbc)
      have Rm_22 := Lib.hid (hr)
      clear hbc HB20 HR0_20 HR1_20 HR2_20 K0_20 K1_20 K2_20 hb hr
      have Cm := Lib.hid hc
      have Mm := Lib.hid hh
      clear hc hh
      go_wp2_with fail
      obtain ⟨n23, hv, hbb, hk0, hk1⟩ : ∃ v, v = ((w21.alloc (.cells #[.slice none 0 0] 24)).alloc (.cells #[.slice Am rm.length cm] 24)) ∧ Below w21.heap.size w21 v ∧ Blk v (w21.heap.size) 24 #[.slice none 0 0] ∧ Blk v (w21.heap.size + 1) 24 #[.slice Am rm.length cm] :=
        ⟨_, rfl, ((Below.refl _ _).alloc (Nat.le_refl _) _).alloc (by simp; try omega) _, (Blk.at_new (by simp; try omega)).alloc _, Blk.at_new (by simp; try omega)⟩
      rw [← hv]
      clear hv
      obtain ⟨bm, ha⟩ : ∃ a, a = w21.heap.size + 1 := ⟨_, rfl⟩
      rw [← ha] at hk1 ⊢
      clear ha
      obtain ⟨bn, ha⟩ : ∃ a, a = w21.heap.size := ⟨_, rfl⟩
      rw [← ha] at hk0 ⊢
      clear ha
      have hbc := hbb
      have HB24 := Lib.hid (below_then HB22.out hbc (Nat.le_refl _))
      have HR0_24 := Lib.hid ((HR0_22.out.below hbc).lt)
      have HR1_24 := Lib.hid ((HR1_22.out.below hbc).lt)
      have HR2_24 := Lib.hid ((HR2_22.out.below hbc).lt)
      have K0_24 := Lib.hid (K0_22.out.after hbc)
      have K1_24 := Lib.hid (K1_22.out.after hbc)
      have K2_24 := Lib.hid (K2_22.out.after hbc)
      have Rm_24 := Lib.hid ((Rm_22.out.below hbc).lt)
      have Kn_24 := Lib.hid (hk0)
      have Km_24 := Lib.hid (hk1)
      clear hbc HB22 HR0_22 HR1_22 HR2_22 K0_22 K1_22 K2_22 Rm_22 hbb hk0 hk1
      refine (not_any none 0 [] _ Row.nil (by simp)).mono ?_
      rintro e w25 ⟨Aall, call, rall, rfl, hc, hh, hr, hb⟩
      have hbc := hb
      have HB26 := Lib.hid (below_then HB24.out hbc (Nat.le_refl _))
      have HR0_26 := Lib.hid ((HR0_24.out.below hbc).lt)
      have HR1_26 := Lib.hid ((HR1_24.out.below hbc).lt)
      have HR2_26 := Lib.hid ((HR2_24.out.below hbc).lt)
      have K0_26 := Lib.hid (K0_24.out.after hbc)
      have K1_26 := Lib.hid (K1_24.out.after hbc)
      have K2_26 := Lib.hid (K2_24.out.after hbc)
      have Rm_26 := Lib.hid ((Rm_24.out.below hbc).lt)
      have Kn_26 := Lib.hid (Kn_24.out.after hbc)
      have Km_26 := Lib.hid (Km_24.out.after hbc)
      have Rall_26 := Lib.hid (hr)
      clear hbc HB24 HR0_24 HR1_24 HR2_24 K0_24 K1_24 K2_24 Rm_24 Kn_24 Km_24 hb hr
      have Call := Lib.hid hc
      have Mall := Lib.hid hh
      clear hc hh
      go_wp2_with fail
      obtain ⟨n27, hv, hbb, hk0⟩ : ∃ v, v = (w25.alloc (.cells #[.slice Aall rall.length call] 24)) ∧ Below w25.heap.size w25 v ∧ Blk v (w25.heap.size) 24 #[.slice Aall rall.length call] :=
        ⟨_, rfl, (Below.refl _ _).alloc (Nat.le_refl _) _, Blk.at_new (by simp; try omega)⟩
      rw [← hv]
      clear hv
      obtain ⟨ba, ha⟩ : ∃ a, a = w25.heap.size := ⟨_, rfl⟩
      rw [← ha] at hk0 ⊢
      clear ha
      have hbc := hbb
      have HB28 := Lib.hid (below_then HB26.out hbc (Nat.le_refl _))
      have HR0_28 := Lib.hid ((HR0_26.out.below hbc).lt)
      have HR1_28 := Lib.hid ((HR1_26.out.below hbc).lt)
      have HR2_28 := Lib.hid ((HR2_26.out.below hbc).lt)
      have K0_28 := Lib.hid (K0_26.out.after hbc)
      have K1_28 := Lib.hid (K1_26.out.after hbc)
      have K2_28 := Lib.hid (K2_26.out.after hbc)
      have Rm_28 := Lib.hid ((Rm_26.out.below hbc).lt)
      have Kn_28 := Lib.hid (Kn_26.out.after hbc)
      have Km_28 := Lib.hid (Km_26.out.after hbc)
      have Rall_28 := Lib.hid ((Rall_26.out.below hbc).lt)
      have Ka_28 := Lib.hid (hk0)
      clear hbc HB26 HR0_26 HR1_26 HR2_26 K0_26 K1_26 K2_26 Rm_26 Kn_26 Km_26 Rall_26 hbb hk0
      refine wp_region_tree (fun w' => Below w.heap.size w w' ∧ Blk w' b0 24 #[.slice A0 l0.length c0] ∧ Blk w' b1 24 #[.slice A1 l1.length c1] ∧ Blk w' b2 24 #[.slice A2 l2.length c2] ∧ Blk w' bn 24 #[.slice none 0 0] ∧ Blk w' bm 24 #[.slice Am rm.length cm] ∧ Blk w' ba 24 #[.slice Aall rall.length call]) (.float 0 (.float 1 (.float 4 (.float 6 (.one 2 (.one 3 (.one 5 (.one 7 (.one 8 (.one 9 (.float 10 (.float 11 (.float 12 (.float 13 (.float 14 (.float 17 (.float 18 (.float 20 (.float 21 (.one 15 (.one 16 (.one 19 (.one 22 (.one 23 (.one 24 (.float 25 (.float 26 (.float 27 (.float 28 (.float 29 (.float 30 (.float 33 (.float 34 (.float 36 (.float 37 (.one 31 (.one 32 (.one 35 (.one 38 (.one 39 (.one 40 (.float 41 (.float 42 .done))))))))))))))))))))))))))))))))))))))))))) (by kernel_rfl) (by kernel_rfl) (fun _ _ d _ _ h => by cases d <;> exact h) ⟨HB28.out.drew, K0_28.out.drew, K1_28.out.drew, K2_28.out.drew, Kn_28.out.drew, Km_28.out.drew, Ka_28.out.drew⟩ ?_
      obtain ⟨d29, hdr, hbd⟩ : ∃ d, d = n27.drew ∧ Below n27.heap.size n27 d := ⟨_, rfl, (Below.refl _ _).drew⟩
      rw [← hdr]
      clear hdr
      have hbc := hbd
      have HB30 := Lib.hid (below_then HB28.out hbc (Nat.le_refl _))
      have HR0_30 := Lib.hid ((HR0_28.out.below hbc).lt)
      have HR1_30 := Lib.hid ((HR1_28.out.below hbc).lt)
      have HR2_30 := Lib.hid ((HR2_28.out.below hbc).lt)
      have K0_30 := Lib.hid (K0_28.out.after hbc)
      have K1_30 := Lib.hid (K1_28.out.after hbc)
      have K2_30 := Lib.hid (K2_28.out.after hbc)
      have Rm_30 := Lib.hid ((Rm_28.out.below hbc).lt)
      have Kn_30 := Lib.hid (Kn_28.out.after hbc)
      have Km_30 := Lib.hid (Km_28.out.after hbc)
      have Rall_30 := Lib.hid ((Rall_28.out.below hbc).lt)
      have Ka_30 := Lib.hid (Ka_28.out.after hbc)
      clear hbc HB28 HR0_28 HR1_28 HR2_28 K0_28 K1_28 K2_28 Rm_28 Kn_28 Km_28 Rall_28 Ka_28 hbd
      repeat (first
        | (refine wpTr_fskip (by simp only [List.getElem?_toArray, List.getElem?_cons_zero, List.getElem?_cons_succ]; rfl) (by rfl) ?_
           simp only [Act.put, List.setIfInBounds_toArray, List.set_cons_zero, List.set_cons_succ])
        | (refine wpTr_float (v := ?_) (by simp only [List.getElem?_toArray, List.getElem?_cons_zero, List.getElem?_cons_succ]; rfl) (by rfl) (fun w' hS => ?_) ?_
           rotate_left
           (obtain ⟨hSb, hSb0, hSb1, hSb2, hSbn, hSbm, hSba⟩ := hS; have eSb0 := hSb0.cell 0; have lSb0 := hSb0.lt; simp at eSb0; have eSb1 := hSb1.cell 0; have lSb1 := hSb1.lt; simp at eSb1; have eSb2 := hSb2.cell 0; have lSb2 := hSb2.lt; simp at eSb2; have eSbn := hSbn.cell 0; have lSbn := hSbn.lt; simp at eSbn; have eSbm := hSbm.cell 0; have lSbm := hSbm.lt; simp at eSbm; have eSba := hSba.cell 0; have lSba := hSba.lt; simp at eSba; go_simp; first | done | rfl)
           simp only [Act.put, List.setIfInBounds_toArray, List.set_cons_zero, List.set_cons_succ]))
      refine wpTr_one ?_
      refine stepTr_K (by simp only [List.getElem?_toArray, List.getElem?_cons_zero, List.getElem?_cons_succ]; rfl) (by rfl) (fun K hK => ?_)
      go_simp
      refine (or_any A0 A1 c0 c1 l0 l1 _ HR0_30.out HR1_30.out (by omega) (by omega)).mono ?_
      rintro e w31 ⟨Ap1, cp1, rp1, rfl, hc, hh, hr, hb⟩
      have hbc := hb
      have HB32 := Lib.hid (below_then HB30.out hbc (Nat.le_refl _))
      have HR0_32 := Lib.hid ((HR0_30.out.below hbc).lt)
      have HR1_32 := Lib.hid ((HR1_30.out.below hbc).lt)
      have HR2_32 := Lib.hid ((HR2_30.out.below hbc).lt)
      have K0_32 := Lib.hid (K0_30.out.after hbc)
      have K1_32 := Lib.hid (K1_30.out.after hbc)
      have K2_32 := Lib.hid (K2_30.out.after hbc)
      have Rm_32 := Lib.hid ((Rm_30.out.below hbc).lt)
      have Kn_32 := Lib.hid (Kn_30.out.after hbc)
      have Km_32 := Lib.hid (Km_30.out.after hbc)
      have Rall_32 := Lib.hid ((Rall_30.out.below hbc).lt)
      have Ka_32 := Lib.hid (Ka_30.out.after hbc)
      have Rp1_32 := Lib.hid (hr)
      clear hbc HB30 HR0_30 HR1_30 HR2_30 K0_30 K1_30 K2_30 Rm_30 Kn_30 Km_30 Rall_30 Ka_30 hb hr
      have Cp1 := Lib.hid hc
      have Mp1 := Lib.hid hh
      clear hc hh
      refine hK.out _ _ ⟨HB32.out, K0_32.out, K1_32.out, K2_32.out, Kn_32.out, Km_32.out, Ka_32.out⟩ ?_
      clear hK K
      try simp only [Act.put, List.setIfInBounds_toArray, List.set_cons_zero, List.set_cons_succ]
      refine wpTr_one ?_
      refine stepTr_K (by simp only [List.getElem?_toArray, List.getElem?_cons_zero, List.getElem?_cons_succ]; rfl) (by rfl) (fun K hK => ?_)
      go_simp
      refine (not_any Ap1 cp1 rp1 _ Rp1_32.out (by have := can_len Cp1.out; omega)).mono ?_
      rintro e w33 ⟨Ap2, cp2, rp2, rfl, hc, hh, hr, hb⟩
      have hbc := hb
      have HB34 := Lib.hid (below_then HB32.out hbc (Nat.le_refl _))
      have HR0_34 := Lib.hid ((HR0_32.out.below hbc).lt)
      have HR1_34 := Lib.hid ((HR1_32.out.below hbc).lt)
      have HR2_34 := Lib.hid ((HR2_32.out.below hbc).lt)
      have K0_34 := Lib.hid (K0_32.out.after hbc)
      have K1_34 := Lib.hid (K1_32.out.after hbc)
      have K2_34 := Lib.hid (K2_32.out.after hbc)
      have Rm_34 := Lib.hid ((Rm_32.out.below hbc).lt)
      have Kn_34 := Lib.hid (Kn_32.out.after hbc)
      have Km_34 := Lib.hid (Km_32.out.after hbc)
      have Rall_34 := Lib.hid ((Rall_32.out.below hbc).lt)
      have Ka_34 := Lib.hid (Ka_32.out.after hbc)
      have Rp1_34 := Lib.hid ((Rp1_32.out.below hbc).lt)
      have Rp2_34 := Lib.hid (hr)
      clear hbc HB32 HR0_32 HR1_32 HR2_32 K0_32 K1_32 K2_32 Rm_32 Kn_32 Km_32 Rall_32 Ka_32 Rp1_32 hb hr
      have Cp2 := Lib.hid hc
      have Mp2 := Lib.hid hh
      clear hc hh
      refine hK.out _ _ ⟨HB34.out, K0_34.out, K1_34.out, K2_34.out, Kn_34.out, Km_34.out, Ka_34.out⟩ ?_
      clear hK K
      try simp only [Act.put, List.setIfInBounds_toArray, List.set_cons_zero, List.set_cons_succ]
      refine wpTr_one ?_
      refine stepTr_K (by simp only [List.getElem?_toArray, List.getElem?_cons_zero, List.getElem?_cons_succ]; rfl) (by rfl) (fun K hK => ?_)
      go_simp
      refine (not_any A0 c0 l0 _ HR0_34.out (by omega)).mono ?_
      rintro e w35 ⟨Ap3, cp3, rp3, rfl, hc, hh, hr, hb⟩
      have hbc := hb
      have HB36 := Lib.hid (below_then HB34.out hbc (Nat.le_refl _))
      have HR0_36 := Lib.hid ((HR0_34.out.below hbc).lt)
      have HR1_36 := Lib.hid ((HR1_34.out.below hbc).lt)
      have HR2_36 := Lib.hid ((HR2_34.out.below hbc).lt)
      have K0_36 := Lib.hid (K0_34.out.after hbc)
      have K1_36 := Lib.hid (K1_34.out.after hbc)
      have K2_36 := Lib.hid (K2_34.out.after hbc)
      have Rm_36 := Lib.hid ((Rm_34.out.below hbc).lt)
      have Kn_36 := Lib.hid (Kn_34.out.after hbc)
      have Km_36 := Lib.hid (Km_34.out.after hbc)
      have Rall_36 := Lib.hid ((Rall_34.out.below hbc).lt)
      have Ka_36 := Lib.hid (Ka_34.out.after hbc)
      have Rp1_36 := Lib.hid ((Rp1_34.out.below hbc).lt)
      have Rp2_36 := Lib.hid ((Rp2_34.out.below hbc).lt)
      have Rp3_36 := Lib.hid (hr)
      clear hbc HB34 HR0_34 HR1_34 HR2_34 K0_34 K1_34 K2_34 Rm_34 Kn_34 Km_34 Rall_34 Ka_34 Rp1_34 Rp2_34 hb hr
      have Cp3 := Lib.hid hc
      have Mp3 := Lib.hid hh
      clear hc hh
      refine hK.out _ _ ⟨HB36.out, K0_36.out, K1_36.out, K2_36.out, Kn_36.out, Km_36.out, Ka_36.out⟩ ?_
      clear hK K
      try simp only [Act.put, List.setIfInBounds_toArray, List.set_cons_zero, List.set_cons_succ]
      refine wpTr_one ?_
      refine stepTr_K (by simp only [List.getElem?_toArray, List.getElem?_cons_zero, List.getElem?_cons_succ]; rfl) (by rfl) (fun K hK => ?_)
      go_simp
      refine (not_any A1 c1 l1 _ HR1_36.out (by omega)).mono ?_
      rintro e w37 ⟨Ap4, cp4, rp4, rfl, hc, hh, hr, hb⟩
      have hbc := hb
      have HB38 := Lib.hid (below_then HB36.out hbc (Nat.le_refl _))
      have HR0_38 := Lib.hid ((HR0_36.out.below hbc).lt)
      have HR1_38 := Lib.hid ((HR1_36.out.below hbc).lt)
      have HR2_38 := Lib.hid ((HR2_36.out.below hbc).lt)
      have K0_38 := Lib.hid (K0_36.out.after hbc)
      have K1_38 := Lib.hid (K1_36.out.after hbc)
      have K2_38 := Lib.hid (K2_36.out.after hbc)
      have Rm_38 := Lib.hid ((Rm_36.out.below hbc).lt)
      have Kn_38 := Lib.hid (Kn_36.out.after hbc)
      have Km_38 := Lib.hid (Km_36.out.after hbc)
      have Rall_38 := Lib.hid ((Rall_36.out.below hbc).lt)
      have Ka_38 := Lib.hid (Ka_36.out.after hbc)
      have Rp1_38 := Lib.hid ((Rp1_36.out.below hbc).lt)
      have Rp2_38 := Lib.hid ((Rp2_36.out.below hbc).lt)
      have Rp3_38 := Lib.hid ((Rp3_36.out.below hbc).lt)
      have Rp4_38 := Lib.hid (hr)
      clear hbc HB36 HR0_36 HR1_36 HR2_36 K0_36 K1_36 K2_36 Rm_36 Kn_36 Km_36 Rall_36 Ka_36 Rp1_36 Rp2_36 Rp3_36 hb hr
      have Cp4 := Lib.hid hc
      have Mp4 := Lib.hid hh
      clear hc hh
      refine hK.out _ _ ⟨HB38.out, K0_38.out, K1_38.out, K2_38.out, Kn_38.out, Km_38.out, Ka_38.out⟩ ?_
      clear hK K
      try simp only [Act.put, List.setIfInBounds_toArray, List.set_cons_zero, List.set_cons_succ]
      refine wpTr_one ?_
      refine stepTr_K (by simp only [List.getElem?_toArray, List.getElem?_cons_zero, List.getElem?_cons_succ]; rfl) (by rfl) (fun K hK => ?_)
      go_simp
      refine (and_any Ap3 Ap4 cp3 cp4 rp3 rp4 _ Rp3_38.out Rp4_38.out (by have := can_len Cp3.out; omega) (by have := can_len Cp4.out; omega)).mono ?_
      rintro e w39 ⟨Ap5, cp5, rp5, rfl, hc, hh, hr, hb⟩
      have hbc := hb
      have HB40 := Lib.hid (below_then HB38.out hbc (Nat.le_refl _))
      have HR0_40 := Lib.hid ((HR0_38.out.below hbc).lt)
      have HR1_40 := Lib.hid ((HR1_38.out.below hbc).lt)
      have HR2_40 := Lib.hid ((HR2_38.out.below hbc).lt)
      have K0_40 := Lib.hid (K0_38.out.after hbc)
      have K1_40 := Lib.hid (K1_38.out.after hbc)
      have K2_40 := Lib.hid (K2_38.out.after hbc)
      have Rm_40 := Lib.hid ((Rm_38.out.below hbc).lt)
      have Kn_40 := Lib.hid (Kn_38.out.after hbc)
      have Km_40 := Lib.hid (Km_38.out.after hbc)
      have Rall_40 := Lib.hid ((Rall_38.out.below hbc).lt)
      have Ka_40 := Lib.hid (Ka_38.out.after hbc)
      have Rp1_40 := Lib.hid ((Rp1_38.out.below hbc).lt)
      have Rp2_40 := Lib.hid ((Rp2_38.out.below hbc).lt)
      have Rp3_40 := Lib.hid ((Rp3_38.out.below hbc).lt)
      have Rp4_40 := Lib.hid ((Rp4_38.out.below hbc).lt)
      have Rp5_40 := Lib.hid (hr)
      clear hbc HB38 HR0_38 HR1_38 HR2_38 K0_38 K1_38 K2_38 Rm_38 Kn_38 Km_38 Rall_38 Ka_38 Rp1_38 Rp2_38 Rp3_38 Rp4_38 hb hr
      have Cp5 := Lib.hid hc
      have Mp5 := Lib.hid hh
      clear hc hh
      refine hK.out _ _ ⟨HB40.out, K0_40.out, K1_40.out, K2_40.out, Kn_40.out, Km_40.out, Ka_40.out⟩ ?_
      clear hK K
      try simp only [Act.put, List.setIfInBounds_toArray, List.set_cons_zero, List.set_cons_succ]
      refine wpTr_one ?_
      refine stepTr_K (by simp only [List.getElem?_toArray, List.getElem?_cons_zero, List.getElem?_cons_succ]; rfl) (by rfl) (fun K hK => ?_)
      go_simp
      refine (same_any Ap2 Ap5 cp2 cp5 _ _ rp2 rp5 rfl rfl _ Rp2_40.out Rp5_40.out (by have := can_len Cp2.out; simp only [maxLen]; omega) (by have := can_len Cp5.out; simp only [maxLen]; omega) true (decide_eq_true (can_eq Cp2.out Cp5.out (fun x => by
                simp only [Mp2.out, Mp1.out, Mp5.out, Mp3.out, Mp4.out]
                by_cases hk : codeP x
                · by_cases hh0 : hasP l0 x <;> by_cases hh1 : hasP l1 x <;> by_cases hh2 : hasP l2 x <;> simp [hk, hh0, hh1]
                · have hh0 : ¬ hasP l0 x := fun h => hk h.1
                  have hh1 : ¬ hasP l1 x := fun h => hk h.1
                  have hh2 : ¬ hasP l2 x := fun h => hk h.1
                  simp [hk, hh0, hh1])))).mono ?_
      rintro e w41 ⟨rfl, hb⟩
      have hbc := hb
      have HB42 := Lib.hid (below_then HB40.out hbc (Nat.le_refl _))
      have HR0_42 := Lib.hid ((HR0_40.out.below hbc).lt)
      have HR1_42 := Lib.hid ((HR1_40.out.below hbc).lt)
      have HR2_42 := Lib.hid ((HR2_40.out.below hbc).lt)
      have K0_42 := Lib.hid (K0_40.out.after hbc)
      have K1_42 := Lib.hid (K1_40.out.after hbc)
      have K2_42 := Lib.hid (K2_40.out.after hbc)
      have Rm_42 := Lib.hid ((Rm_40.out.below hbc).lt)
      have Kn_42 := Lib.hid (Kn_40.out.after hbc)
      have Km_42 := Lib.hid (Km_40.out.after hbc)
      have Rall_42 := Lib.hid ((Rall_40.out.below hbc).lt)
      have Ka_42 := Lib.hid (Ka_40.out.after hbc)
      have Rp1_42 := Lib.hid ((Rp1_40.out.below hbc).lt)
      have Rp2_42 := Lib.hid ((Rp2_40.out.below hbc).lt)
      have Rp3_42 := Lib.hid ((Rp3_40.out.below hbc).lt)
      have Rp4_42 := Lib.hid ((Rp4_40.out.below hbc).lt)
      have Rp5_42 := Lib.hid ((Rp5_40.out.below hbc).lt)
      clear hbc HB40 HR0_40 HR1_40 HR2_40 K0_40 K1_40 K2_40 Rm_40 Kn_40 Km_40 Rall_40 Ka_40 Rp1_40 Rp2_40 Rp3_40 Rp4_40 Rp5_40 hb
      refine hK.out _ _ ⟨HB42.out, K0_42.out, K1_42.out, K2_42.out, Kn_42.out, Km_42.out, Ka_42.out⟩ ?_
      clear hK K
      try simp only [Act.put, List.setIfInBounds_toArray, List.set_cons_zero, List.set_cons_succ]
      repeat (first
        | (refine wpTr_fskip (by simp only [List.getElem?_toArray, List.getElem?_cons_zero, List.getElem?_cons_succ]; rfl) (by rfl) ?_
           simp only [Act.put, List.setIfInBounds_toArray, List.set_cons_zero, List.set_cons_succ])
        | (refine wpTr_float (v := ?_) (by simp only [List.getElem?_toArray, List.getElem?_cons_zero, List.getElem?_cons_succ]; rfl) (by rfl) (fun w' hS => ?_) ?_
           rotate_left
           (obtain ⟨hSb, hSb0, hSb1, hSb2, hSbn, hSbm, hSba⟩ := hS; have eSb0 := hSb0.cell 0; have lSb0 := hSb0.lt; simp at eSb0; have eSb1 := hSb1.cell 0; have lSb1 := hSb1.lt; simp at eSb1; have eSb2 := hSb2.cell 0; have lSb2 := hSb2.lt; simp at eSb2; have eSbn := hSbn.cell 0; have lSbn := hSbn.lt; simp at eSbn; have eSbm := hSbm.cell 0; have lSbm := hSbm.lt; simp at eSbm; have eSba := hSba.cell 0; have lSba := hSba.lt; simp at eSba; go_simp; first | done | rfl)
           simp only [Act.put, List.setIfInBounds_toArray, List.set_cons_zero, List.set_cons_succ]))
      refine wpTr_one ?_
      refine stepTr_K (by simp only [List.getElem?_toArray, List.getElem?_cons_zero, List.getElem?_cons_succ]; rfl) (by rfl) (fun K hK => ?_)
      go_simp
      refine (or_any A1 A2 c1 c2 l1 l2 _ HR1_42.out HR2_42.out (by omega) (by omega)).mono ?_
      rintro e w43 ⟨Aq1, cq1, rq1, rfl, hc, hh, hr, hb⟩
      have hbc := hb
      have HB44 := Lib.hid (below_then HB42.out hbc (Nat.le_refl _))
      have HR0_44 := Lib.hid ((HR0_42.out.below hbc).lt)
      have HR1_44 := Lib.hid ((HR1_42.out.below hbc).lt)
      have HR2_44 := Lib.hid ((HR2_42.out.below hbc).lt)
      have K0_44 := Lib.hid (K0_42.out.after hbc)
      have K1_44 := Lib.hid (K1_42.out.after hbc)
      have K2_44 := Lib.hid (K2_42.out.after hbc)
      have Rm_44 := Lib.hid ((Rm_42.out.below hbc).lt)
      have Kn_44 := Lib.hid (Kn_42.out.after hbc)
      have Km_44 := Lib.hid (Km_42.out.after hbc)
      have Rall_44 := Lib.hid ((Rall_42.out.below hbc).lt)
      have Ka_44 := Lib.hid (Ka_42.out.after hbc)
      have Rp1_44 := Lib.hid ((Rp1_42.out.below hbc).lt)
      have Rp2_44 := Lib.hid ((Rp2_42.out.below hbc).lt)
      have Rp3_44 := Lib.hid ((Rp3_42.out.below hbc).lt)
      have Rp4_44 := Lib.hid ((Rp4_42.out.below hbc).lt)
      have Rp5_44 := Lib.hid ((Rp5_42.out.below hbc).lt)
      have Rq1_44 := Lib.hid (hr)
      clear hbc HB42 HR0_42 HR1_42 HR2_42 K0_42 K1_42 K2_42 Rm_42 Kn_42 Km_42 Rall_42 Ka_42 Rp1_42 Rp2_42 Rp3_42 Rp4_42 Rp5_42 hb hr
      have Cq1 := Lib.hid hc
      have Mq1 := Lib.hid hh
      clear hc hh
      refine hK.out _ _ ⟨HB44.out, K0_44.out, K1_44.out, K2_44.out, Kn_44.out, Km_44.out, Ka_44.out⟩ ?_
      clear hK K
      try simp only [Act.put, List.setIfInBounds_toArray, List.set_cons_zero, List.set_cons_succ]
      refine wpTr_one ?_
      refine stepTr_K (by simp only [List.getElem?_toArray, List.getElem?_cons_zero, List.getElem?_cons_succ]; rfl) (by rfl) (fun K hK => ?_)
      go_simp
      refine (and_any A0 Aq1 c0 cq1 l0 rq1 _ HR0_44.out Rq1_44.out (by omega) (by have := can_len Cq1.out; omega)).mono ?_
      rintro e w45 ⟨Aq2, cq2, rq2, rfl, hc, hh, hr, hb⟩
      have hbc := hb
      have HB46 := Lib.hid (below_then HB44.out hbc (Nat.le_refl _))
      have HR0_46 := Lib.hid ((HR0_44.out.below hbc).lt)
      have HR1_46 := Lib.hid ((HR1_44.out.below hbc).lt)
      have HR2_46 := Lib.hid ((HR2_44.out.below hbc).lt)
      have K0_46 := Lib.hid (K0_44.out.after hbc)
      have K1_46 := Lib.hid (K1_44.out.after hbc)
      have K2_46 := Lib.hid (K2_44.out.after hbc)
      have Rm_46 := Lib.hid ((Rm_44.out.below hbc).lt)
      have Kn_46 := Lib.hid (Kn_44.out.after hbc)
      have Km_46 := Lib.hid (Km_44.out.after hbc)
      have Rall_46 := Lib.hid ((Rall_44.out.below hbc).lt)
      have Ka_46 := Lib.hid (Ka_44.out.after hbc)
      have Rp1_46 := Lib.hid ((Rp1_44.out.below hbc).lt)
      have Rp2_46 := Lib.hid ((Rp2_44.out.below hbc).lt)
      have Rp3_46 := Lib.hid ((Rp3_44.out.below hbc).lt)
      have Rp4_46 := Lib.hid ((Rp4_44.out.below hbc).lt)
      have Rp5_46 := Lib.hid ((Rp5_44.out.below hbc).lt)
      have Rq1_46 := Lib.hid ((Rq1_44.out.below hbc).lt)
      have Rq2_46 := Lib.hid (hr)
      clear hbc HB44 HR0_44 HR1_44 HR2_44 K0_44 K1_44 K2_44 Rm_44 Kn_44 Km_44 Rall_44 Ka_44 Rp1_44 Rp2_44 Rp3_44 Rp4_44 Rp5_44 Rq1_44 hb hr
      have Cq2 := Lib.hid hc
      have Mq2 := Lib.hid hh
      clear hc hh
      refine hK.out _ _ ⟨HB46.out, K0_46.out, K1_46.out, K2_46.out, Kn_46.out, Km_46.out, Ka_46.out⟩ ?_
      clear hK K
      try simp only [Act.put, List.setIfInBounds_toArray, List.set_cons_zero, List.set_cons_succ]
      refine wpTr_one ?_
      refine stepTr_K (by simp only [List.getElem?_toArray, List.getElem?_cons_zero, List.getElem?_cons_succ]; rfl) (by rfl) (fun K hK => ?_)
      go_simp
      refine (and_any A0 A1 c0 c1 l0 l1 _ HR0_46.out HR1_46.out (by omega) (by omega)).mono ?_
      rintro e w47 ⟨Aq3, cq3, rq3, rfl, hc, hh, hr, hb⟩
      have hbc := hb
      have HB48 := Lib.hid (below_then HB46.out hbc (Nat.le_refl _))
      have HR0_48 := Lib.hid ((HR0_46.out.below hbc).lt)
      have HR1_48 := Lib.hid ((HR1_46.out.below hbc).lt)
      have HR2_48 := Lib.hid ((HR2_46.out.below hbc).lt)
      have K0_48 := Lib.hid (K0_46.out.after hbc)
      have K1_48 := Lib.hid (K1_46.out.after hbc)
      have K2_48 := Lib.hid (K2_46.out.after hbc)
      have Rm_48 := Lib.hid ((Rm_46.out.below hbc).lt)
      have Kn_48 := Lib.hid (Kn_46.out.after hbc)
      have Km_48 := Lib.hid (Km_46.out.after hbc)
      have Rall_48 := Lib.hid ((Rall_46.out.below hbc).lt)
      have Ka_48 := Lib.hid (Ka_46.out.after hbc)
      have Rp1_48 := Lib.hid ((Rp1_46.out.below hbc).lt)
      have Rp2_48 := Lib.hid ((Rp2_46.out.below hbc).lt)
      have Rp3_48 := Lib.hid ((Rp3_46.out.below hbc).lt)
      have Rp4_48 := Lib.hid ((Rp4_46.out.below hbc).lt)
      have Rp5_48 := Lib.hid ((Rp5_46.out.below hbc).lt)
      have Rq1_48 := Lib.hid ((Rq1_46.out.below hbc).lt)
      have Rq2_48 := Lib.hid ((Rq2_46.out.below hbc).lt)
      have Rq3_48 := Lib.hid (hr)
      clear hbc HB46 HR0_46 HR1_46 HR2_46 K0_46 K1_46 K2_46 Rm_46 Kn_46 Km_46 Rall_46 Ka_46 Rp1_46 Rp2_46 Rp3_46 Rp4_46 Rp5_46 Rq1_46 Rq2_46 hb hr
      have Cq3 := Lib.hid hc
      have Mq3 := Lib.hid hh
      clear hc hh
      refine hK.out _ _ ⟨HB48.out, K0_48.out, K1_48.out, K2_48.out, Kn_48.out, Km_48.out, Ka_48.out⟩ ?_
      clear hK K
      try simp only [Act.put, List.setIfInBounds_toArray, List.set_cons_zero, List.set_cons_succ]
      refine wpTr_one ?_
      refine stepTr_K (by simp only [List.getElem?_toArray, List.getElem?_cons_zero, List.getElem?_cons_succ]; rfl) (by rfl) (fun K hK => ?_)
      go_simp
      refine (and_any A0 A2 c0 c2 l0 l2 _ HR0_48.out HR2_48.out (by omega) (by omega)).mono ?_
      rintro e w49 ⟨Aq4, cq4, rq4, rfl, hc, hh, hr, hb⟩
      have hbc := hb
      have HB50 := Lib.hid (below_then HB48.out hbc (Nat.le_refl _))
      have HR0_50 := Lib.hid ((HR0_48.out.below hbc).lt)
      have HR1_50 := Lib.hid ((HR1_48.out.below hbc).lt)
      have HR2_50 := Lib.hid ((HR2_48.out.below hbc).lt)
      have K0_50 := Lib.hid (K0_48.out.after hbc)
      have K1_50 := Lib.hid (K1_48.out.after hbc)
      have K2_50 := Lib.hid (K2_48.out.after hbc)
      have Rm_50 := Lib.hid ((Rm_48.out.below hbc).lt)
      have Kn_50 := Lib.hid (Kn_48.out.after hbc)
      have Km_50 := Lib.hid (Km_48.out.after hbc)
      have Rall_50 := Lib.hid ((Rall_48.out.below hbc).lt)
      have Ka_50 := Lib.hid (Ka_48.out.after hbc)
      have Rp1_50 := Lib.hid ((Rp1_48.out.below hbc).lt)
      have Rp2_50 := Lib.hid ((Rp2_48.out.below hbc).lt)
      have Rp3_50 := Lib.hid ((Rp3_48.out.below hbc).lt)
      have Rp4_50 := Lib.hid ((Rp4_48.out.below hbc).lt)
      have Rp5_50 := Lib.hid ((Rp5_48.out.below hbc).lt)
      have Rq1_50 := Lib.hid ((Rq1_48.out.below hbc).lt)
      have Rq2_50 := Lib.hid ((Rq2_48.out.below hbc).lt)
      have Rq3_50 := Lib.hid ((Rq3_48.out.below hbc).lt)
      have Rq4_50 := Lib.hid (hr)
      clear hbc HB48 HR0_48 HR1_48 HR2_48 K0_48 K1_48 K2_48 Rm_48 Kn_48 Km_48 Rall_48 Ka_48 Rp1_48 Rp2_48 Rp3_48 Rp4_48 Rp5_48 Rq1_48 Rq2_48 Rq3_48 hb hr
      have Cq4 := Lib.hid hc
      have Mq4 := Lib.hid hh
      clear hc hh
      refine hK.out _ _ ⟨HB50.out, K0_50.out, K1_50.out, K2_50.out, Kn_50.out, Km_50.out, Ka_50.out⟩ ?_
      clear hK K
      try simp only [Act.put, List.setIfInBounds_toArray, List.set_cons_zero, List.set_cons_succ]
      refine wpTr_one ?_
      refine stepTr_K (by simp only [List.getElem?_toArray, List.getElem?_cons_zero, List.getElem?_cons_succ]; rfl) (by rfl) (fun K hK => ?_)
      go_simp
      refine (or_any Aq3 Aq4 cq3 cq4 rq3 rq4 _ Rq3_50.out Rq4_50.out (by have := can_len Cq3.out; omega) (by have := can_len Cq4.out; omega)).mono ?_
      rintro e w51 ⟨Aq5, cq5, rq5, rfl, hc, hh, hr, hb⟩
      have hbc := hb
      have HB52 := Lib.hid (below_then HB50.out hbc (Nat.le_refl _))
      have HR0_52 := Lib.hid ((HR0_50.out.below hbc).lt)
      have HR1_52 := Lib.hid ((HR1_50.out.below hbc).lt)
      have HR2_52 := Lib.hid ((HR2_50.out.below hbc).lt)
      have K0_52 := Lib.hid (K0_50.out.after hbc)
      have K1_52 := Lib.hid (K1_50.out.after hbc)
      have K2_52 := Lib.hid (K2_50.out.after hbc)
      have Rm_52 := Lib.hid ((Rm_50.out.below hbc).lt)
      have Kn_52 := Lib.hid (Kn_50.out.after hbc)
      have Km_52 := Lib.hid (Km_50.out.after hbc)
      have Rall_52 := Lib.hid ((Rall_50.out.below hbc).lt)
      have Ka_52 := Lib.hid (Ka_50.out.after hbc)
      have Rp1_52 := Lib.hid ((Rp1_50.out.below hbc).lt)
      have Rp2_52 := Lib.hid ((Rp2_50.out.below hbc).lt)
      have Rp3_52 := Lib.hid ((Rp3_50.out.below hbc).lt)
      have Rp4_52 := Lib.hid ((Rp4_50.out.below hbc).lt)
      have Rp5_52 := Lib.hid ((Rp5_50.out.below hbc).lt)
      have Rq1_52 := Lib.hid ((Rq1_50.out.below hbc).lt)
      have Rq2_52 := Lib.hid ((Rq2_50.out.below hbc).lt)
      have Rq3_52 := Lib.hid ((Rq3_50.out.below hbc).lt)
      have Rq4_52 := Lib.hid ((Rq4_50.out.below hbc).lt)
      have Rq5_52 := Lib.hid (hr)
      clear hbc HB50 HR0_50 HR1_50 HR2_50 K0_50 K1_50 K2_50 Rm_50 Kn_50 Km_50 Rall_50 Ka_50 Rp1_50 Rp2_50 Rp3_50 Rp4_50 Rp5_50 Rq1_50 Rq2_50 Rq3_50 Rq4_50 hb hr
      have Cq5 := Lib.hid hc
      have Mq5 := Lib.hid hh
      clear hc hh
      refine hK.out _ _ ⟨HB52.out, K0_52.out, K1_52.out, K2_52.out, Kn_52.out, Km_52.out, Ka_52.out⟩ ?_
      clear hK K
      try simp only [Act.put, List.setIfInBounds_toArray, List.set_cons_zero, List.set_cons_succ]
      refine wpTr_one ?_
      refine stepTr_K (by simp only [List.getElem?_toArray, List.getElem?_cons_zero, List.getElem?_cons_succ]; rfl) (by rfl) (fun K hK => ?_)
      go_simp
      refine (same_any Aq2 Aq5 cq2 cq5 _ _ rq2 rq5 rfl rfl _ Rq2_52.out Rq5_52.out (by have := can_len Cq2.out; simp only [maxLen]; omega) (by have := can_len Cq5.out; simp only [maxLen]; omega) true (decide_eq_true (can_eq Cq2.out Cq5.out (fun x => by
                simp only [Mq2.out, Mq1.out, Mq5.out, Mq3.out, Mq4.out]
                by_cases hk : codeP x
                · by_cases hh0 : hasP l0 x <;> by_cases hh1 : hasP l1 x <;> by_cases hh2 : hasP l2 x <;> simp [hh0, hh1, hh2]
                · have hh0 : ¬ hasP l0 x := fun h => hk h.1
                  have hh1 : ¬ hasP l1 x := fun h => hk h.1
                  have hh2 : ¬ hasP l2 x := fun h => hk h.1
                  simp [hh0, hh1, hh2])))).mono ?_
      rintro e w53 ⟨rfl, hb⟩
      have hbc := hb
      have HB54 := Lib.hid (below_then HB52.out hbc (Nat.le_refl _))
      have HR0_54 := Lib.hid ((HR0_52.out.below hbc).lt)
      have HR1_54 := Lib.hid ((HR1_52.out.below hbc).lt)
      have HR2_54 := Lib.hid ((HR2_52.out.below hbc).lt)
      have K0_54 := Lib.hid (K0_52.out.after hbc)
      have K1_54 := Lib.hid (K1_52.out.after hbc)
      have K2_54 := Lib.hid (K2_52.out.after hbc)
      have Rm_54 := Lib.hid ((Rm_52.out.below hbc).lt)
      have Kn_54 := Lib.hid (Kn_52.out.after hbc)
      have Km_54 := Lib.hid (Km_52.out.after hbc)
      have Rall_54 := Lib.hid ((Rall_52.out.below hbc).lt)
      have Ka_54 := Lib.hid (Ka_52.out.after hbc)
      have Rp1_54 := Lib.hid ((Rp1_52.out.below hbc).lt)
      have Rp2_54 := Lib.hid ((Rp2_52.out.below hbc).lt)
      have Rp3_54 := Lib.hid ((Rp3_52.out.below hbc).lt)
      have Rp4_54 := Lib.hid ((Rp4_52.out.below hbc).lt)
      have Rp5_54 := Lib.hid ((Rp5_52.out.below hbc).lt)
      have Rq1_54 := Lib.hid ((Rq1_52.out.below hbc).lt)
      have Rq2_54 := Lib.hid ((Rq2_52.out.below hbc).lt)
      have Rq3_54 := Lib.hid ((Rq3_52.out.below hbc).lt)
      have Rq4_54 := Lib.hid ((Rq4_52.out.below hbc).lt)
      have Rq5_54 := Lib.hid ((Rq5_52.out.below hbc).lt)
      clear hbc HB52 HR0_52 HR1_52 HR2_52 K0_52 K1_52 K2_52 Rm_52 Kn_52 Km_52 Rall_52 Ka_52 Rp1_52 Rp2_52 Rp3_52 Rp4_52 Rp5_52 Rq1_52 Rq2_52 Rq3_52 Rq4_52 Rq5_52 hb
      refine hK.out _ _ ⟨HB54.out, K0_54.out, K1_54.out, K2_54.out, Kn_54.out, Km_54.out, Ka_54.out⟩ ?_
      clear hK K
      try simp only [Act.put, List.setIfInBounds_toArray, List.set_cons_zero, List.set_cons_succ]
      repeat (first
        | (refine wpTr_fskip (by simp only [List.getElem?_toArray, List.getElem?_cons_zero, List.getElem?_cons_succ]; rfl) (by rfl) ?_
           simp only [Act.put, List.setIfInBounds_toArray, List.set_cons_zero, List.set_cons_succ])
        | (refine wpTr_float (v := ?_) (by simp only [List.getElem?_toArray, List.getElem?_cons_zero, List.getElem?_cons_succ]; rfl) (by rfl) (fun w' hS => ?_) ?_
           rotate_left
           (obtain ⟨hSb, hSb0, hSb1, hSb2, hSbn, hSbm, hSba⟩ := hS; have eSb0 := hSb0.cell 0; have lSb0 := hSb0.lt; simp at eSb0; have eSb1 := hSb1.cell 0; have lSb1 := hSb1.lt; simp at eSb1; have eSb2 := hSb2.cell 0; have lSb2 := hSb2.lt; simp at eSb2; have eSbn := hSbn.cell 0; have lSbn := hSbn.lt; simp at eSbn; have eSbm := hSbm.cell 0; have lSbm := hSbm.lt; simp at eSbm; have eSba := hSba.cell 0; have lSba := hSba.lt; simp at eSba; go_simp; first | done | rfl)
           simp only [Act.put, List.setIfInBounds_toArray, List.set_cons_zero, List.set_cons_succ]))
      refine wpTr_one ?_
      refine stepTr_K (by simp only [List.getElem?_toArray, List.getElem?_cons_zero, List.getElem?_cons_succ]; rfl) (by rfl) (fun K hK => ?_)
      go_simp
      refine (and_any A1 A2 c1 c2 l1 l2 _ HR1_54.out HR2_54.out (by omega) (by omega)).mono ?_
      rintro e w55 ⟨Ar1, cr1, rr1, rfl, hc, hh, hr, hb⟩
      have hbc := hb
      have HB56 := Lib.hid (below_then HB54.out hbc (Nat.le_refl _))
      have HR0_56 := Lib.hid ((HR0_54.out.below hbc).lt)
      have HR1_56 := Lib.hid ((HR1_54.out.below hbc).lt)
      have HR2_56 := Lib.hid ((HR2_54.out.below hbc).lt)
      have K0_56 := Lib.hid (K0_54.out.after hbc)
      have K1_56 := Lib.hid (K1_54.out.after hbc)
      have K2_56 := Lib.hid (K2_54.out.after hbc)
      have Rm_56 := Lib.hid ((Rm_54.out.below hbc).lt)
      have Kn_56 := Lib.hid (Kn_54.out.after hbc)
      have Km_56 := Lib.hid (Km_54.out.after hbc)
      have Rall_56 := Lib.hid ((Rall_54.out.below hbc).lt)
      have Ka_56 := Lib.hid (Ka_54.out.after hbc)
      have Rp1_56 := Lib.hid ((Rp1_54.out.below hbc).lt)
      have Rp2_56 := Lib.hid ((Rp2_54.out.below hbc).lt)
      have Rp3_56 := Lib.hid ((Rp3_54.out.below hbc).lt)
      have Rp4_56 := Lib.hid ((Rp4_54.out.below hbc).lt)
      have Rp5_56 := Lib.hid ((Rp5_54.out.below hbc).lt)
      have Rq1_56 := Lib.hid ((Rq1_54.out.below hbc).lt)
      have Rq2_56 := Lib.hid ((Rq2_54.out.below hbc).lt)
      have Rq3_56 := Lib.hid ((Rq3_54.out.below hbc).lt)
      have Rq4_56 := Lib.hid ((Rq4_54.out.below hbc).lt)
      have Rq5_56 := Lib.hid ((Rq5_54.out.below hbc).lt)
      have Rr1_56 := Lib.hid (hr)
      clear hbc HB54 HR0_54 HR1_54 HR2_54 K0_54 K1_54 K2_54 Rm_54 Kn_54 Km_54 Rall_54 Ka_54 Rp1_54 Rp2_54 Rp3_54 Rp4_54 Rp5_54 Rq1_54 Rq2_54 Rq3_54 Rq4_54 Rq5_54 hb hr
      have Cr1 := Lib.hid hc
      have Mr1 := Lib.hid hh
      clear hc hh
      refine hK.out _ _ ⟨HB56.out, K0_56.out, K1_56.out, K2_56.out, Kn_56.out, Km_56.out, Ka_56.out⟩ ?_
      clear hK K
      try simp only [Act.put, List.setIfInBounds_toArray, List.set_cons_zero, List.set_cons_succ]
      refine wpTr_one ?_
      refine stepTr_K (by simp only [List.getElem?_toArray, List.getElem?_cons_zero, List.getElem?_cons_succ]; rfl) (by rfl) (fun K hK => ?_)
      go_simp
      refine (or_any A0 Ar1 c0 cr1 l0 rr1 _ HR0_56.out Rr1_56.out (by omega) (by have := can_len Cr1.out; omega)).mono ?_
      rintro e w57 ⟨Ar2, cr2, rr2, rfl, hc, hh, hr, hb⟩
      have hbc := hb
      have HB58 := Lib.hid (below_then HB56.out hbc (Nat.le_refl _))
      have HR0_58 := Lib.hid ((HR0_56.out.below hbc).lt)
      have HR1_58 := Lib.hid ((HR1_56.out.below hbc).lt)
      have HR2_58 := Lib.hid ((HR2_56.out.below hbc).lt)
      have K0_58 := Lib.hid (K0_56.out.after hbc)
      have K1_58 := Lib.hid (K1_56.out.after hbc)
      have K2_58 := Lib.hid (K2_56.out.after hbc)
      have Rm_58 := Lib.hid ((Rm_56.out.below hbc).lt)
      have Kn_58 := Lib.hid (Kn_56.out.after hbc)
      have Km_58 := Lib.hid (Km_56.out.after hbc)
      have Rall_58 := Lib.hid ((Rall_56.out.below hbc).lt)
      have Ka_58 := Lib.hid (Ka_56.out.after hbc)
      have Rp1_58 := Lib.hid ((Rp1_56.out.below hbc).lt)
      have Rp2_58 := Lib.hid ((Rp2_56.out.below hbc).lt)
      have Rp3_58 := Lib.hid ((Rp3_56.out.below hbc).lt)
      have Rp4_58 := Lib.hid ((Rp4_56.out.below hbc).lt)
      have Rp5_58 := Lib.hid ((Rp5_56.out.below hbc).lt)
      have Rq1_58 := Lib.hid ((Rq1_56.out.below hbc).lt)
      have Rq2_58 := Lib.hid ((Rq2_56.out.below hbc).lt)
      have Rq3_58 := Lib.hid ((Rq3_56.out.below hbc).lt)
      have Rq4_58 := Lib.hid ((Rq4_56.out.below hbc).lt)
      have Rq5_58 := Lib.hid ((Rq5_56.out.below hbc).lt)
      have Rr1_58 := Lib.hid ((Rr1_56.out.below hbc).lt)
      have Rr2_58 := Lib.hid (hr)
      clear hbc HB56 HR0_56 HR1_56 HR2_56 K0_56 K1_56 K2_56 Rm_56 Kn_56 Km_56 Rall_56 Ka_56 Rp1_56 Rp2_56 Rp3_56 Rp4_56 Rp5_56 Rq1_56 Rq2_56 Rq3_56 Rq4_56 Rq5_56 Rr1_56 hb hr
      have Cr2 := Lib.hid hc
      have Mr2 := Lib.hid hh
      clear hc hh
      refine hK.out _ _ ⟨HB58.out, K0_58.out, K1_58.out, K2_58.out, Kn_58.out, Km_58.out, Ka_58.out⟩ ?_
      clear hK K
      try simp only [Act.put, List.setIfInBounds_toArray, List.set_cons_zero, List.set_cons_succ]
      refine wpTr_one ?_
      refine stepTr_K (by simp only [List.getElem?_toArray, List.getElem?_cons_zero, List.getElem?_cons_succ]; rfl) (by rfl) (fun K hK => ?_)
      go_simp
      refine (or_any A0 A1 c0 c1 l0 l1 _ HR0_58.out HR1_58.out (by omega) (by omega)).mono ?_
      rintro e w59 ⟨Ar3, cr3, rr3, rfl, hc, hh, hr, hb⟩
      have hbc := hb
      have HB60 := Lib.hid (below_then HB58.out hbc (Nat.le_refl _))
      have HR0_60 := Lib.hid ((HR0_58.out.below hbc).lt)
      have HR1_60 := Lib.hid ((HR1_58.out.below hbc).lt)
      have HR2_60 := Lib.hid ((HR2_58.out.below hbc).lt)
      have K0_60 := Lib.hid (K0_58.out.after hbc)
      have K1_60 := Lib.hid (K1_58.out.after hbc)
      have K2_60 := Lib.hid (K2_58.out.after hbc)
      have Rm_60 := Lib.hid ((Rm_58.out.below hbc).lt)
      have Kn_60 := Lib.hid (Kn_58.out.after hbc)
      have Km_60 := Lib.hid (Km_58.out.after hbc)
      have Rall_60 := Lib.hid ((Rall_58.out.below hbc).lt)
      have Ka_60 := Lib.hid (Ka_58.out.after hbc)
      have Rp1_60 := Lib.hid ((Rp1_58.out.below hbc).lt)
      have Rp2_60 := Lib.hid ((Rp2_58.out.below hbc).lt)
      have Rp3_60 := Lib.hid ((Rp3_58.out.below hbc).lt)
      have Rp4_60 := Lib.hid ((Rp4_58.out.below hbc).lt)
      have Rp5_60 := Lib.hid ((Rp5_58.out.below hbc).lt)
      have Rq1_60 := Lib.hid ((Rq1_58.out.below hbc).lt)
      have Rq2_60 := Lib.hid ((Rq2_58.out.below hbc).lt)
      have Rq3_60 := Lib.hid ((Rq3_58.out.below hbc).lt)
      have Rq4_60 := Lib.hid ((Rq4_58.out.below hbc).lt)
      have Rq5_60 := Lib.hid ((Rq5_58.out.below hbc).lt)
      have Rr1_60 := Lib.hid ((Rr1_58.out.below hbc).lt)
      have Rr2_60 := Lib.hid ((Rr2_58.out.below hbc).lt)
      have Rr3_60 := Lib.hid (hr)
      clear hbc HB58 HR0_58 HR1_58 HR2_58 K0_58 K1_58 K2_58 Rm_58 Kn_58 Km_58 Rall_58 Ka_58 Rp1_58 Rp2_58 Rp3_58 Rp4_58 Rp5_58 Rq1_58 Rq2_58 Rq3_58 Rq4_58 Rq5_58 Rr1_58 Rr2_58 hb hr
      have Cr3 := Lib.hid hc
      have Mr3 := Lib.hid hh
      clear hc hh
      refine hK.out _ _ ⟨HB60.out, K0_60.out, K1_60.out, K2_60.out, Kn_60.out, Km_60.out, Ka_60.out⟩ ?_
      clear hK K
      try simp only [Act.put, List.setIfInBounds_toArray, List.set_cons_zero, List.set_cons_succ]
      refine wpTr_one ?_
      refine stepTr_K (by simp only [List.getElem?_toArray, List.getElem?_cons_zero, List.getElem?_cons_succ]; rfl) (by rfl) (fun K hK => ?_)
      go_simp
      refine (or_any A0 A2 c0 c2 l0 l2 _ HR0_60.out HR2_60.out (by omega) (by omega)).mono ?_
      rintro e w61 ⟨Ar4, cr4, rr4, rfl, hc, hh, hr, hb⟩
      have hbc := hb
      have HB62 := Lib.hid (below_then HB60.out hbc (Nat.le_refl _))
      have HR0_62 := Lib.hid ((HR0_60.out.below hbc).lt)
      have HR1_62 := Lib.hid ((HR1_60.out.below hbc).lt)
      have HR2_62 := Lib.hid ((HR2_60.out.below hbc).lt)
      have K0_62 := Lib.hid (K0_60.out.after hbc)
      have K1_62 := Lib.hid (K1_60.out.after hbc)
      have K2_62 := Lib.hid (K2_60.out.after hbc)
      have Rm_62 := Lib.hid ((Rm_60.out.below hbc).lt)
      have Kn_62 := Lib.hid (Kn_60.out.after hbc)
      have Km_62 := Lib.hid (Km_60.out.after hbc)
      have Rall_62 := Lib.hid ((Rall_60.out.below hbc).lt)
      have Ka_62 := Lib.hid (Ka_60.out.after hbc)
      have Rp1_62 := Lib.hid ((Rp1_60.out.below hbc).lt)
      have Rp2_62 := Lib.hid ((Rp2_60.out.below hbc).lt)
      have Rp3_62 := Lib.hid ((Rp3_60.out.below hbc).lt)
      have Rp4_62 := Lib.hid ((Rp4_60.out.below hbc).lt)
      have Rp5_62 := Lib.hid ((Rp5_60.out.below hbc).lt)
      have Rq1_62 := Lib.hid ((Rq1_60.out.below hbc).lt)
      have Rq2_62 := Lib.hid ((Rq2_60.out.below hbc).lt)
      have Rq3_62 := Lib.hid ((Rq3_60.out.below hbc).lt)
      have Rq4_62 := Lib.hid ((Rq4_60.out.below hbc).lt)
      have Rq5_62 := Lib.hid ((Rq5_60.out.below hbc).lt)
      have Rr1_62 := Lib.hid ((Rr1_60.out.below hbc).lt)
      have Rr2_62 := Lib.hid ((Rr2_60.out.below hbc).lt)
      have Rr3_62 := Lib.hid ((Rr3_60.out.below hbc).lt)
      have Rr4_62 := Lib.hid (hr)
      clear hbc HB60 HR0_60 HR1_60 HR2_60 K0_60 K1_60 K2_60 Rm_60 Kn_60 Km_60 Rall_60 Ka_60 Rp1_60 Rp2_60 Rp3_60 Rp4_60 Rp5_60 Rq1_60 Rq2_60 Rq3_60 Rq4_60 Rq5_60 Rr1_60 Rr2_60 Rr3_60 hb hr
      have Cr4 := Lib.hid hc
      have Mr4 := Lib.hid hh
      clear hc hh
      refine hK.out _ _ ⟨HB62.out, K0_62.out, K1_62.out, K2_62.out, Kn_62.out, Km_62.out, Ka_62.out⟩ ?_
      clear hK K
      try simp only [Act.put, List.setIfInBounds_toArray, List.set_cons_zero, List.set_cons_succ]
      refine wpTr_one ?_
      refine stepTr_K (by simp only [List.getElem?_toArray, List.getElem?_cons_zero, List.getElem?_cons_succ]; rfl) (by rfl) (fun K hK => ?_)
      go_simp
      refine (and_any Ar3 Ar4 cr3 cr4 rr3 rr4 _ Rr3_62.out Rr4_62.out (by have := can_len Cr3.out; omega) (by have := can_len Cr4.out; omega)).mono ?_
      rintro e w63 ⟨Ar5, cr5, rr5, rfl, hc, hh, hr, hb⟩
      have hbc := hb
      have HB64 := Lib.hid (below_then HB62.out hbc (Nat.le_refl _))
      have HR0_64 := Lib.hid ((HR0_62.out.below hbc).lt)
      have HR1_64 := Lib.hid ((HR1_62.out.below hbc).lt)
      have HR2_64 := Lib.hid ((HR2_62.out.below hbc).lt)
      have K0_64 := Lib.hid (K0_62.out.after hbc)
      have K1_64 := Lib.hid (K1_62.out.after hbc)
      have K2_64 := Lib.hid (K2_62.out.after hbc)
      have Rm_64 := Lib.hid ((Rm_62.out.below hbc).lt)
      have Kn_64 := Lib.hid (Kn_62.out.after hbc)
      have Km_64 := Lib.hid (Km_62.out.after hbc)
      have Rall_64 := Lib.hid ((Rall_62.out.below hbc).lt)
      have Ka_64 := Lib.hid (Ka_62.out.after hbc)
      have Rp1_64 := Lib.hid ((Rp1_62.out.below hbc).lt)
      have Rp2_64 := Lib.hid ((Rp2_62.out.below hbc).lt)
      have Rp3_64 := Lib.hid ((Rp3_62.out.below hbc).lt)
      have Rp4_64 := Lib.hid ((Rp4_62.out.below hbc).lt)
      have Rp5_64 := Lib.hid ((Rp5_62.out.below hbc).lt)
      have Rq1_64 := Lib.hid ((Rq1_62.out.below hbc).lt)
      have Rq2_64 := Lib.hid ((Rq2_62.out.below hbc).lt)
      have Rq3_64 := Lib.hid ((Rq3_62.out.below hbc).lt)
      have Rq4_64 := Lib.hid ((Rq4_62.out.below hbc).lt)
      have Rq5_64 := Lib.hid ((Rq5_62.out.below hbc).lt)
      have Rr1_64 := Lib.hid ((Rr1_62.out.below hbc).lt)
      have Rr2_64 := Lib.hid ((Rr2_62.out.below hbc).lt)
      have Rr3_64 := Lib.hid ((Rr3_62.out.below hbc).lt)
      have Rr4_64 := Lib.hid ((Rr4_62.out.below hbc).lt)
      have Rr5_64 := Lib.hid (hr)
      clear hbc HB62 HR0_62 HR1_62 HR2_62 K0_62 K1_62 K2_62 Rm_62 Kn_62 Km_62 Rall_62 Ka_62 Rp1_62 Rp2_62 Rp3_62 Rp4_62 Rp5_62 Rq1_62 Rq2_62 Rq3_62 Rq4_62 Rq5_62 Rr1_62 Rr2_62 Rr3_62 Rr4_62 hb hr
      have Cr5 := Lib.hid hc
      have Mr5 := Lib.hid hh
      clear hc hh
      refine hK.out _ _ ⟨HB64.out, K0_64.out, K1_64.out, K2_64.out, Kn_64.out, Km_64.out, Ka_64.out⟩ ?_
      clear hK K
      try simp only [Act.put, List.setIfInBounds_toArray, List.set_cons_zero, List.set_cons_succ]
      refine wpTr_one ?_
      refine stepTr_K (by simp only [List.getElem?_toArray, List.getElem?_cons_zero, List.getElem?_cons_succ]; rfl) (by rfl) (fun K hK => ?_)
      go_simp
      refine (same_any Ar2 Ar5 cr2 cr5 _ _ rr2 rr5 rfl rfl _ Rr2_64.out Rr5_64.out (by have := can_len Cr2.out; simp only [maxLen]; omega) (by have := can_len Cr5.out; simp only [maxLen]; omega) true (decide_eq_true (can_eq Cr2.out Cr5.out (fun x => by
                simp only [Mr2.out, Mr1.out, Mr5.out, Mr3.out, Mr4.out]
                by_cases hk : codeP x
                · by_cases hh0 : hasP l0 x <;> by_cases hh1 : hasP l1 x <;> by_cases hh2 : hasP l2 x <;> simp [hh0, hh1, hh2]
                · have hh0 : ¬ hasP l0 x := fun h => hk h.1
                  have hh1 : ¬ hasP l1 x := fun h => hk h.1
                  have hh2 : ¬ hasP l2 x := fun h => hk h.1
                  simp [hh0, hh1, hh2])))).mono ?_
      rintro e w65 ⟨rfl, hb⟩
      have hbc := hb
      have HB66 := Lib.hid (below_then HB64.out hbc (Nat.le_refl _))
      have HR0_66 := Lib.hid ((HR0_64.out.below hbc).lt)
      have HR1_66 := Lib.hid ((HR1_64.out.below hbc).lt)
      have HR2_66 := Lib.hid ((HR2_64.out.below hbc).lt)
      have K0_66 := Lib.hid (K0_64.out.after hbc)
      have K1_66 := Lib.hid (K1_64.out.after hbc)
      have K2_66 := Lib.hid (K2_64.out.after hbc)
      have Rm_66 := Lib.hid ((Rm_64.out.below hbc).lt)
      have Kn_66 := Lib.hid (Kn_64.out.after hbc)
      have Km_66 := Lib.hid (Km_64.out.after hbc)
      have Rall_66 := Lib.hid ((Rall_64.out.below hbc).lt)
      have Ka_66 := Lib.hid (Ka_64.out.after hbc)
      have Rp1_66 := Lib.hid ((Rp1_64.out.below hbc).lt)
      have Rp2_66 := Lib.hid ((Rp2_64.out.below hbc).lt)
      have Rp3_66 := Lib.hid ((Rp3_64.out.below hbc).lt)
      have Rp4_66 := Lib.hid ((Rp4_64.out.below hbc).lt)
      have Rp5_66 := Lib.hid ((Rp5_64.out.below hbc).lt)
      have Rq1_66 := Lib.hid ((Rq1_64.out.below hbc).lt)
      have Rq2_66 := Lib.hid ((Rq2_64.out.below hbc).lt)
      have Rq3_66 := Lib.hid ((Rq3_64.out.below hbc).lt)
      have Rq4_66 := Lib.hid ((Rq4_64.out.below hbc).lt)
      have Rq5_66 := Lib.hid ((Rq5_64.out.below hbc).lt)
      have Rr1_66 := Lib.hid ((Rr1_64.out.below hbc).lt)
      have Rr2_66 := Lib.hid ((Rr2_64.out.below hbc).lt)
      have Rr3_66 := Lib.hid ((Rr3_64.out.below hbc).lt)
      have Rr4_66 := Lib.hid ((Rr4_64.out.below hbc).lt)
      have Rr5_66 := Lib.hid ((Rr5_64.out.below hbc).lt)
      clear hbc HB64 HR0_64 HR1_64 HR2_64 K0_64 K1_64 K2_64 Rm_64 Kn_64 Km_64 Rall_64 Ka_64 Rp1_64 Rp2_64 Rp3_64 Rp4_64 Rp5_64 Rq1_64 Rq2_64 Rq3_64 Rq4_64 Rq5_64 Rr1_64 Rr2_64 Rr3_64 Rr4_64 Rr5_64 hb
      refine hK.out _ _ ⟨HB66.out, K0_66.out, K1_66.out, K2_66.out, Kn_66.out, Km_66.out, Ka_66.out⟩ ?_
      clear hK K
      try simp only [Act.put, List.setIfInBounds_toArray, List.set_cons_zero, List.set_cons_succ]
      repeat (first
        | (refine wpTr_fskip (by simp only [List.getElem?_toArray, List.getElem?_cons_zero, List.getElem?_cons_succ]; rfl) (by rfl) ?_
           simp only [Act.put, List.setIfInBounds_toArray, List.set_cons_zero, List.set_cons_succ])
        | (refine wpTr_float (v := ?_) (by simp only [List.getElem?_toArray, List.getElem?_cons_zero, List.getElem?_cons_succ]; rfl) (by rfl) (fun w' hS => ?_) ?_
           rotate_left
           (obtain ⟨hSb, hSb0, hSb1, hSb2, hSbn, hSbm, hSba⟩ := hS; have eSb0 := hSb0.cell 0; have lSb0 := hSb0.lt; simp at eSb0; have eSb1 := hSb1.cell 0; have lSb1 := hSb1.lt; simp at eSb1; have eSb2 := hSb2.cell 0; have lSb2 := hSb2.lt; simp at eSb2; have eSbn := hSbn.cell 0; have lSbn := hSbn.lt; simp at eSbn; have eSbm := hSbm.cell 0; have lSbm := hSbm.lt; simp at eSbm; have eSba := hSba.cell 0; have lSba := hSba.lt; simp at eSba; go_simp; first | done | rfl)
           simp only [Act.put, List.setIfInBounds_toArray, List.set_cons_zero, List.set_cons_succ]))
      refine wpTr_done ?_
      clear Rp1_66
      clear Rp2_66
      clear Rp3_66
      clear Rp4_66
      clear Rp5_66
      clear Rq1_66
      clear Rq2_66
      clear Rq3_66
      clear Rq4_66
      clear Rq5_66
      clear Rr1_66
      clear Rr2_66
      clear Rr3_66
      clear Rr4_66
      clear Rr5_66
      go_wp2_with fail
      refine wp_region_tree (fun w' => Below w.heap.size w w' ∧ Blk w' b0 24 #[.slice A0 l0.length c0] ∧ Blk w' b1 24 #[.slice A1 l1.length c1] ∧ Blk w' b2 24 #[.slice A2 l2.length c2] ∧ Blk w' bn 24 #[.slice none 0 0] ∧ Blk w' bm 24 #[.slice Am rm.length cm] ∧ Blk w' ba 24 #[.slice Aall rall.length call]) (.float 0 (.float 3 (.one 1 (.one 2 (.one 4 (.float 5 (.float 6 (.float 7 (.float 8 (.float 10 (.one 9 (.one 11 (.float 12 (.float 13 (.float 14 (.float 15 (.float 16 (.float 18 (.one 17 (.one 19 (.float 20 (.float 21 (.float 22 (.float 23 (.float 24 (.float 27 (.one 25 (.one 26 (.one 28 (.float 29 (.float 30 (.float 31 (.float 32 (.float 33 (.one 34 (.one 35 (.float 36 (.float 37 (.float 38 (.float 39 .done)))))))))))))))))))))))))))))))))))))))) (by kernel_rfl) (by kernel_rfl) (fun _ _ d _ _ h => by cases d <;> exact h) ⟨HB66.out.drew, K0_66.out.drew, K1_66.out.drew, K2_66.out.drew, Kn_66.out.drew, Km_66.out.drew, Ka_66.out.drew⟩ ?_
      obtain ⟨d67, hdr, hbd⟩ : ∃ d, d = w65.drew ∧ Below w65.heap.size w65 d := ⟨_, rfl, (Below.refl _ _).drew⟩
      rw [← hdr]
      clear hdr
      have hbc := hbd
      have HB68 := Lib.hid (below_then HB66.out hbc (Nat.le_refl _))
      have HR0_68 := Lib.hid ((HR0_66.out.below hbc).lt)
      have HR1_68 := Lib.hid ((HR1_66.out.below hbc).lt)
      have HR2_68 := Lib.hid ((HR2_66.out.below hbc).lt)
      have K0_68 := Lib.hid (K0_66.out.after hbc)
      have K1_68 := Lib.hid (K1_66.out.after hbc)
      have K2_68 := Lib.hid (K2_66.out.after hbc)
      have Rm_68 := Lib.hid ((Rm_66.out.below hbc).lt)
      have Kn_68 := Lib.hid (Kn_66.out.after hbc)
      have Km_68 := Lib.hid (Km_66.out.after hbc)
      have Rall_68 := Lib.hid ((Rall_66.out.below hbc).lt)
      have Ka_68 := Lib.hid (Ka_66.out.after hbc)
      clear hbc HB66 HR0_66 HR1_66 HR2_66 K0_66 K1_66 K2_66 Rm_66 Kn_66 Km_66 Rall_66 Ka_66 hbd
      repeat (first
        | (refine wpTr_fskip (by simp only [List.getElem?_toArray, List.getElem?_cons_zero, List.getElem?_cons_succ]; rfl) (by rfl) ?_
           simp only [Act.put, List.setIfInBounds_toArray, List.set_cons_zero, List.set_cons_succ])
        | (refine wpTr_float (v := ?_) (by simp only [List.getElem?_toArray, List.getElem?_cons_zero, List.getElem?_cons_succ]; rfl) (by rfl) (fun w' hS => ?_) ?_
           rotate_left
           (obtain ⟨hSb, hSb0, hSb1, hSb2, hSbn, hSbm, hSba⟩ := hS; have eSb0 := hSb0.cell 0; have lSb0 := hSb0.lt; simp at eSb0; have eSb1 := hSb1.cell 0; have lSb1 := hSb1.lt; simp at eSb1; have eSb2 := hSb2.cell 0; have lSb2 := hSb2.lt; simp at eSb2; have eSbn := hSbn.cell 0; have lSbn := hSbn.lt; simp at eSbn; have eSbm := hSbm.cell 0; have lSbm := hSbm.lt; simp at eSbm; have eSba := hSba.cell 0; have lSba := hSba.lt; simp at eSba; go_simp; first | done | rfl)
           simp only [Act.put, List.setIfInBounds_toArray, List.set_cons_zero, List.set_cons_succ]))
      refine wpTr_one ?_
      refine stepTr_K (by simp only [List.getElem?_toArray, List.getElem?_cons_zero, List.getElem?_cons_succ]; rfl) (by rfl) (fun K hK => ?_)
      go_simp
      refine (not_any A0 c0 l0 _ HR0_68.out (by omega)).mono ?_
      rintro e w69 ⟨As1, cs1, rs1, rfl, hc, hh, hr, hb⟩
      have hbc := hb
      have HB70 := Lib.hid (below_then HB68.out hbc (Nat.le_refl _))
      have HR0_70 := Lib.hid ((HR0_68.out.below hbc).lt)
      have HR1_70 := Lib.hid ((HR1_68.out.below hbc).lt)
      have HR2_70 := Lib.hid ((HR2_68.out.below hbc).lt)
      have K0_70 := Lib.hid (K0_68.out.after hbc)
      have K1_70 := Lib.hid (K1_68.out.after hbc)
      have K2_70 := Lib.hid (K2_68.out.after hbc)
      have Rm_70 := Lib.hid ((Rm_68.out.below hbc).lt)
      have Kn_70 := Lib.hid (Kn_68.out.after hbc)
      have Km_70 := Lib.hid (Km_68.out.after hbc)
      have Rall_70 := Lib.hid ((Rall_68.out.below hbc).lt)
      have Ka_70 := Lib.hid (Ka_68.out.after hbc)
      have Rs1_70 := Lib.hid (hr)
      clear hbc HB68 HR0_68 HR1_68 HR2_68 K0_68 K1_68 K2_68 Rm_68 Kn_68 Km_68 Rall_68 Ka_68 hb hr
      have Cs1 := Lib.hid hc
      have Ms1 := Lib.hid hh
      clear hc hh
      refine hK.out _ _ ⟨HB70.out, K0_70.out, K1_70.out, K2_70.out, Kn_70.out, Km_70.out, Ka_70.out⟩ ?_
      clear hK K
      try simp only [Act.put, List.setIfInBounds_toArray, List.set_cons_zero, List.set_cons_succ]
      refine wpTr_one ?_
      refine stepTr_K (by simp only [List.getElem?_toArray, List.getElem?_cons_zero, List.getElem?_cons_succ]; rfl) (by rfl) (fun K hK => ?_)
      go_simp
      refine (not_any As1 cs1 rs1 _ Rs1_70.out (by have := can_len Cs1.out; omega)).mono ?_
      rintro e w71 ⟨As2, cs2, rs2, rfl, hc, hh, hr, hb⟩
      have hbc := hb
      have HB72 := Lib.hid (below_then HB70.out hbc (Nat.le_refl _))
      have HR0_72 := Lib.hid ((HR0_70.out.below hbc).lt)
      have HR1_72 := Lib.hid ((HR1_70.out.below hbc).lt)
      have HR2_72 := Lib.hid ((HR2_70.out.below hbc).lt)
      have K0_72 := Lib.hid (K0_70.out.after hbc)
      have K1_72 := Lib.hid (K1_70.out.after hbc)
      have K2_72 := Lib.hid (K2_70.out.after hbc)
      have Rm_72 := Lib.hid ((Rm_70.out.below hbc).lt)
      have Kn_72 := Lib.hid (Kn_70.out.after hbc)
      have Km_72 := Lib.hid (Km_70.out.after hbc)
      have Rall_72 := Lib.hid ((Rall_70.out.below hbc).lt)
      have Ka_72 := Lib.hid (Ka_70.out.after hbc)
      have Rs1_72 := Lib.hid ((Rs1_70.out.below hbc).lt)
      have Rs2_72 := Lib.hid (hr)
      clear hbc HB70 HR0_70 HR1_70 HR2_70 K0_70 K1_70 K2_70 Rm_70 Kn_70 Km_70 Rall_70 Ka_70 Rs1_70 hb hr
      have Cs2 := Lib.hid hc
      have Ms2 := Lib.hid hh
      clear hc hh
      refine hK.out _ _ ⟨HB72.out, K0_72.out, K1_72.out, K2_72.out, Kn_72.out, Km_72.out, Ka_72.out⟩ ?_
      clear hK K
      try simp only [Act.put, List.setIfInBounds_toArray, List.set_cons_zero, List.set_cons_succ]
      refine wpTr_one ?_
      refine stepTr_K (by simp only [List.getElem?_toArray, List.getElem?_cons_zero, List.getElem?_cons_succ]; rfl) (by rfl) (fun K hK => ?_)
      go_simp
      refine (same_any As2 Am cs2 cm _ _ rs2 rm rfl rfl _ Rs2_72.out Rm_72.out (by have := can_len Cs2.out; simp only [maxLen]; omega) (by have := can_len Cm.out; simp only [maxLen]; omega) true (decide_eq_true (can_eq Cs2.out Cm.out (fun x => by
                simp only [Ms2.out, Ms1.out, Mm.out]
                by_cases hk : codeP x
                · by_cases hh0 : hasP l0 x <;> by_cases hh1 : hasP l1 x <;> by_cases hh2 : hasP l2 x <;> simp [hk, hh0]
                · have hh0 : ¬ hasP l0 x := fun h => hk h.1
                  have hh1 : ¬ hasP l1 x := fun h => hk h.1
                  have hh2 : ¬ hasP l2 x := fun h => hk h.1
                  simp [hk, hh0])))).mono ?_
      rintro e w73 ⟨rfl, hb⟩
      have hbc := hb
      have HB74 := Lib.hid (below_then HB72.out hbc (Nat.le_refl _))
      have HR0_74 := Lib.hid ((HR0_72.out.below hbc).lt)
      have HR1_74 := Lib.hid ((HR1_72.out.below hbc).lt)
      have HR2_74 := Lib.hid ((HR2_72.out.below hbc).lt)
      have K0_74 := Lib.hid (K0_72.out.after hbc)
      have K1_74 := Lib.hid (K1_72.out.after hbc)
      have K2_74 := Lib.hid (K2_72.out.after hbc)
      have Rm_74 := Lib.hid ((Rm_72.out.below hbc).lt)
      have Kn_74 := Lib.hid (Kn_72.out.after hbc)
      have Km_74 := Lib.hid (Km_72.out.after hbc)
      have Rall_74 := Lib.hid ((Rall_72.out.below hbc).lt)
      have Ka_74 := Lib.hid (Ka_72.out.after hbc)
      have Rs1_74 := Lib.hid ((Rs1_72.out.below hbc).lt)
      have Rs2_74 := Lib.hid ((Rs2_72.out.below hbc).lt)
      clear hbc HB72 HR0_72 HR1_72 HR2_72 K0_72 K1_72 K2_72 Rm_72 Kn_72 Km_72 Rall_72 Ka_72 Rs1_72 Rs2_72 hb
      refine hK.out _ _ ⟨HB74.out, K0_74.out, K1_74.out, K2_74.out, Kn_74.out, Km_74.out, Ka_74.out⟩ ?_
      clear hK K
      try simp only [Act.put, List.setIfInBounds_toArray, List.set_cons_zero, List.set_cons_succ]
      repeat (first
        | (refine wpTr_fskip (by simp only [List.getElem?_toArray, List.getElem?_cons_zero, List.getElem?_cons_succ]; rfl) (by rfl) ?_
           simp only [Act.put, List.setIfInBounds_toArray, List.set_cons_zero, List.set_cons_succ])
        | (refine wpTr_float (v := ?_) (by simp only [List.getElem?_toArray, List.getElem?_cons_zero, List.getElem?_cons_succ]; rfl) (by rfl) (fun w' hS => ?_) ?_
           rotate_left
           (obtain ⟨hSb, hSb0, hSb1, hSb2, hSbn, hSbm, hSba⟩ := hS; have eSb0 := hSb0.cell 0; have lSb0 := hSb0.lt; simp at eSb0; have eSb1 := hSb1.cell 0; have lSb1 := hSb1.lt; simp at eSb1; have eSb2 := hSb2.cell 0; have lSb2 := hSb2.lt; simp at eSb2; have eSbn := hSbn.cell 0; have lSbn := hSbn.lt; simp at eSbn; have eSbm := hSbm.cell 0; have lSbm := hSbm.lt; simp at eSbm; have eSba := hSba.cell 0; have lSba := hSba.lt; simp at eSba; go_simp; first | done | rfl)
           simp only [Act.put, List.setIfInBounds_toArray, List.set_cons_zero, List.set_cons_succ]))
      refine wpTr_one ?_
      refine stepTr_K (by simp only [List.getElem?_toArray, List.getElem?_cons_zero, List.getElem?_cons_succ]; rfl) (by rfl) (fun K hK => ?_)
      go_simp
      refine (or_any A0 none c0 0 l0 [] _ HR0_74.out Row.nil (by omega) (by simp)).mono ?_
      rintro e w75 ⟨As3, cs3, rs3, rfl, hc, hh, hr, hb⟩
      have hbc := hb
      have HB76 := Lib.hid (below_then HB74.out hbc (Nat.le_refl _))
      have HR0_76 := Lib.hid ((HR0_74.out.below hbc).lt)
      have HR1_76 := Lib.hid ((HR1_74.out.below hbc).lt)
      have HR2_76 := Lib.hid ((HR2_74.out.below hbc).lt)
      have K0_76 := Lib.hid (K0_74.out.after hbc)
      have K1_76 := Lib.hid (K1_74.out.after hbc)
      have K2_76 := Lib.hid (K2_74.out.after hbc)
      have Rm_76 := Lib.hid ((Rm_74.out.below hbc).lt)
      have Kn_76 := Lib.hid (Kn_74.out.after hbc)
      have Km_76 := Lib.hid (Km_74.out.after hbc)
      have Rall_76 := Lib.hid ((Rall_74.out.below hbc).lt)
      have Ka_76 := Lib.hid (Ka_74.out.after hbc)
      have Rs1_76 := Lib.hid ((Rs1_74.out.below hbc).lt)
      have Rs2_76 := Lib.hid ((Rs2_74.out.below hbc).lt)
      have Rs3_76 := Lib.hid (hr)
      clear hbc HB74 HR0_74 HR1_74 HR2_74 K0_74 K1_74 K2_74 Rm_74 Kn_74 Km_74 Rall_74 Ka_74 Rs1_74 Rs2_74 hb hr
      have Cs3 := Lib.hid hc
      have Ms3 := Lib.hid hh
      clear hc hh
      refine hK.out _ _ ⟨HB76.out, K0_76.out, K1_76.out, K2_76.out, Kn_76.out, Km_76.out, Ka_76.out⟩ ?_
      clear hK K
      try simp only [Act.put, List.setIfInBounds_toArray, List.set_cons_zero, List.set_cons_succ]
      refine wpTr_one ?_
      refine stepTr_K (by simp only [List.getElem?_toArray, List.getElem?_cons_zero, List.getElem?_cons_succ]; rfl) (by rfl) (fun K hK => ?_)
      go_simp
      refine (same_any As3 Am cs3 cm _ _ rs3 rm rfl rfl _ Rs3_76.out Rm_76.out (by have := can_len Cs3.out; simp only [maxLen]; omega) (by have := can_len Cm.out; simp only [maxLen]; omega) true (decide_eq_true (can_eq Cs3.out Cm.out (fun x => by
                simp only [has_nil, Ms3.out, Mm.out]
                by_cases hk : codeP x
                · by_cases hh0 : hasP l0 x <;> by_cases hh1 : hasP l1 x <;> by_cases hh2 : hasP l2 x <;> simp [hh0]
                · have hh0 : ¬ hasP l0 x := fun h => hk h.1
                  have hh1 : ¬ hasP l1 x := fun h => hk h.1
                  have hh2 : ¬ hasP l2 x := fun h => hk h.1
                  simp [hh0])))).mono ?_
      rintro e w77 ⟨rfl, hb⟩
      have hbc := hb
      have HB78 := Lib.hid (below_then HB76.out hbc (Nat.le_refl _))
      have HR0_78 := Lib.hid ((HR0_76.out.below hbc).lt)
      have HR1_78 := Lib.hid ((HR1_76.out.below hbc).lt)
      have HR2_78 := Lib.hid ((HR2_76.out.below hbc).lt)
      have K0_78 := Lib.hid (K0_76.out.after hbc)
      have K1_78 := Lib.hid (K1_76.out.after hbc)
      have K2_78 := Lib.hid (K2_76.out.after hbc)
      have Rm_78 := Lib.hid ((Rm_76.out.below hbc).lt)
      have Kn_78 := Lib.hid (Kn_76.out.after hbc)
      have Km_78 := Lib.hid (Km_76.out.after hbc)
      have Rall_78 := Lib.hid ((Rall_76.out.below hbc).lt)
      have Ka_78 := Lib.hid (Ka_76.out.after hbc)
      have Rs1_78 := Lib.hid ((Rs1_76.out.below hbc).lt)
      have Rs2_78 := Lib.hid ((Rs2_76.out.below hbc).lt)
      have Rs3_78 := Lib.hid ((Rs3_76.out.below hbc).lt)
      clear hbc HB76 HR0_76 HR1_76 HR2_76 K0_76 K1_76 K2_76 Rm_76 Kn_76 Km_76 Rall_76 Ka_76 Rs1_76 Rs2_76 Rs3_76 hb
      refine hK.out _ _ ⟨HB78.out, K0_78.out, K1_78.out, K2_78.out, Kn_78.out, Km_78.out, Ka_78.out⟩ ?_
      clear hK K
      try simp only [Act.put, List.setIfInBounds_toArray, List.set_cons_zero, List.set_cons_succ]
      repeat (first
        | (refine wpTr_fskip (by simp only [List.getElem?_toArray, List.getElem?_cons_zero, List.getElem?_cons_succ]; rfl) (by rfl) ?_
           simp only [Act.put, List.setIfInBounds_toArray, List.set_cons_zero, List.set_cons_succ])
        | (refine wpTr_float (v := ?_) (by simp only [List.getElem?_toArray, List.getElem?_cons_zero, List.getElem?_cons_succ]; rfl) (by rfl) (fun w' hS => ?_) ?_
           rotate_left
           (obtain ⟨hSb, hSb0, hSb1, hSb2, hSbn, hSbm, hSba⟩ := hS; have eSb0 := hSb0.cell 0; have lSb0 := hSb0.lt; simp at eSb0; have eSb1 := hSb1.cell 0; have lSb1 := hSb1.lt; simp at eSb1; have eSb2 := hSb2.cell 0; have lSb2 := hSb2.lt; simp at eSb2; have eSbn := hSbn.cell 0; have lSbn := hSbn.lt; simp at eSbn; have eSbm := hSbm.cell 0; have lSbm := hSbm.lt; simp at eSbm; have eSba := hSba.cell 0; have lSba := hSba.lt; simp at eSba; go_simp; first | done | rfl)
           simp only [Act.put, List.setIfInBounds_toArray, List.set_cons_zero, List.set_cons_succ]))
      refine wpTr_one ?_
      refine stepTr_K (by simp only [List.getElem?_toArray, List.getElem?_cons_zero, List.getElem?_cons_succ]; rfl) (by rfl) (fun K hK => ?_)
      go_simp
      refine (and_any A0 Aall c0 call l0 rall _ HR0_78.out Rall_78.out (by omega) (by have := can_len Call.out; omega)).mono ?_
      rintro e w79 ⟨As4, cs4, rs4, rfl, hc, hh, hr, hb⟩
      have hbc := hb
      have HB80 := Lib.hid (below_then HB78.out hbc (Nat.le_refl _))
      have HR0_80 := Lib.hid ((HR0_78.out.below hbc).lt)
      have HR1_80 := Lib.hid ((HR1_78.out.below hbc).lt)
      have HR2_80 := Lib.hid ((HR2_78.out.below hbc).lt)
      have K0_80 := Lib.hid (K0_78.out.after hbc)
      have K1_80 := Lib.hid (K1_78.out.after hbc)
      have K2_80 := Lib.hid (K2_78.out.after hbc)
      have Rm_80 := Lib.hid ((Rm_78.out.below hbc).lt)
      have Kn_80 := Lib.hid (Kn_78.out.after hbc)
      have Km_80 := Lib.hid (Km_78.out.after hbc)
      have Rall_80 := Lib.hid ((Rall_78.out.below hbc).lt)
      have Ka_80 := Lib.hid (Ka_78.out.after hbc)
      have Rs1_80 := Lib.hid ((Rs1_78.out.below hbc).lt)
      have Rs2_80 := Lib.hid ((Rs2_78.out.below hbc).lt)
      have Rs3_80 := Lib.hid ((Rs3_78.out.below hbc).lt)
      have Rs4_80 := Lib.hid (hr)
      clear hbc HB78 HR0_78 HR1_78 HR2_78 K0_78 K1_78 K2_78 Rm_78 Kn_78 Km_78 Rall_78 Ka_78 Rs1_78 Rs2_78 Rs3_78 hb hr
      have Cs4 := Lib.hid hc
      have Ms4 := Lib.hid hh
      clear hc hh
      refine hK.out _ _ ⟨HB80.out, K0_80.out, K1_80.out, K2_80.out, Kn_80.out, Km_80.out, Ka_80.out⟩ ?_
      clear hK K
      try simp only [Act.put, List.setIfInBounds_toArray, List.set_cons_zero, List.set_cons_succ]
      refine wpTr_one ?_
      refine stepTr_K (by simp only [List.getElem?_toArray, List.getElem?_cons_zero, List.getElem?_cons_succ]; rfl) (by rfl) (fun K hK => ?_)
      go_simp
      refine (same_any As4 Am cs4 cm _ _ rs4 rm rfl rfl _ Rs4_80.out Rm_80.out (by have := can_len Cs4.out; simp only [maxLen]; omega) (by have := can_len Cm.out; simp only [maxLen]; omega) true (decide_eq_true (can_eq Cs4.out Cm.out (fun x => by
                simp only [has_nil, Ms4.out, Mall.out, Mm.out]
                by_cases hk : codeP x
                · by_cases hh0 : hasP l0 x <;> by_cases hh1 : hasP l1 x <;> by_cases hh2 : hasP l2 x <;> simp [hk, hh0]
                · have hh0 : ¬ hasP l0 x := fun h => hk h.1
                  have hh1 : ¬ hasP l1 x := fun h => hk h.1
                  have hh2 : ¬ hasP l2 x := fun h => hk h.1
                  simp [hk, hh0])))).mono ?_
      rintro e w81 ⟨rfl, hb⟩
      have hbc := hb
      have HB82 := Lib.hid (below_then HB80.out hbc (Nat.le_refl _))
      have HR0_82 := Lib.hid ((HR0_80.out.below hbc).lt)
      have HR1_82 := Lib.hid ((HR1_80.out.below hbc).lt)
      have HR2_82 := Lib.hid ((HR2_80.out.below hbc).lt)
      have K0_82 := Lib.hid (K0_80.out.after hbc)
      have K1_82 := Lib.hid (K1_80.out.after hbc)
      have K2_82 := Lib.hid (K2_80.out.after hbc)
      have Rm_82 := Lib.hid ((Rm_80.out.below hbc).lt)
      have Kn_82 := Lib.hid (Kn_80.out.after hbc)
      have Km_82 := Lib.hid (Km_80.out.after hbc)
      have Rall_82 := Lib.hid ((Rall_80.out.below hbc).lt)
      have Ka_82 := Lib.hid (Ka_80.out.after hbc)
      have Rs1_82 := Lib.hid ((Rs1_80.out.below hbc).lt)
      have Rs2_82 := Lib.hid ((Rs2_80.out.below hbc).lt)
      have Rs3_82 := Lib.hid ((Rs3_80.out.below hbc).lt)
      have Rs4_82 := Lib.hid ((Rs4_80.out.below hbc).lt)
      clear hbc HB80 HR0_80 HR1_80 HR2_80 K0_80 K1_80 K2_80 Rm_80 Kn_80 Km_80 Rall_80 Ka_80 Rs1_80 Rs2_80 Rs3_80 Rs4_80 hb
      refine hK.out _ _ ⟨HB82.out, K0_82.out, K1_82.out, K2_82.out, Kn_82.out, Km_82.out, Ka_82.out⟩ ?_
      clear hK K
      try simp only [Act.put, List.setIfInBounds_toArray, List.set_cons_zero, List.set_cons_succ]
      repeat (first
        | (refine wpTr_fskip (by simp only [List.getElem?_toArray, List.getElem?_cons_zero, List.getElem?_cons_succ]; rfl) (by rfl) ?_
           simp only [Act.put, List.setIfInBounds_toArray, List.set_cons_zero, List.set_cons_succ])
        | (refine wpTr_float (v := ?_) (by simp only [List.getElem?_toArray, List.getElem?_cons_zero, List.getElem?_cons_succ]; rfl) (by rfl) (fun w' hS => ?_) ?_
           rotate_left
           (obtain ⟨hSb, hSb0, hSb1, hSb2, hSbn, hSbm, hSba⟩ := hS; have eSb0 := hSb0.cell 0; have lSb0 := hSb0.lt; simp at eSb0; have eSb1 := hSb1.cell 0; have lSb1 := hSb1.lt; simp at eSb1; have eSb2 := hSb2.cell 0; have lSb2 := hSb2.lt; simp at eSb2; have eSbn := hSbn.cell 0; have lSbn := hSbn.lt; simp at eSbn; have eSbm := hSbm.cell 0; have lSbm := hSbm.lt; simp at eSbm; have eSba := hSba.cell 0; have lSba := hSba.lt; simp at eSba; go_simp; first | done | rfl)
           simp only [Act.put, List.setIfInBounds_toArray, List.set_cons_zero, List.set_cons_succ]))
      refine wpTr_one ?_
      refine stepTr_K (by simp only [List.getElem?_toArray, List.getElem?_cons_zero, List.getElem?_cons_succ]; rfl) (by rfl) (fun K hK => ?_)
      go_simp
      refine (not_any A0 c0 l0 _ HR0_82.out (by omega)).mono ?_
      rintro e w83 ⟨As5, cs5, rs5, rfl, hc, hh, hr, hb⟩
      have hbc := hb
      have HB84 := Lib.hid (below_then HB82.out hbc (Nat.le_refl _))
      have HR0_84 := Lib.hid ((HR0_82.out.below hbc).lt)
      have HR1_84 := Lib.hid ((HR1_82.out.below hbc).lt)
      have HR2_84 := Lib.hid ((HR2_82.out.below hbc).lt)
      have K0_84 := Lib.hid (K0_82.out.after hbc)
      have K1_84 := Lib.hid (K1_82.out.after hbc)
      have K2_84 := Lib.hid (K2_82.out.after hbc)
      have Rm_84 := Lib.hid ((Rm_82.out.below hbc).lt)
      have Kn_84 := Lib.hid (Kn_82.out.after hbc)
      have Km_84 := Lib.hid (Km_82.out.after hbc)
      have Rall_84 := Lib.hid ((Rall_82.out.below hbc).lt)
      have Ka_84 := Lib.hid (Ka_82.out.after hbc)
      have Rs1_84 := Lib.hid ((Rs1_82.out.below hbc).lt)
      have Rs2_84 := Lib.hid ((Rs2_82.out.below hbc).lt)
      have Rs3_84 := Lib.hid ((Rs3_82.out.below hbc).lt)
      have Rs4_84 := Lib.hid ((Rs4_82.out.below hbc).lt)
      have Rs5_84 := Lib.hid (hr)
      clear hbc HB82 HR0_82 HR1_82 HR2_82 K0_82 K1_82 K2_82 Rm_82 Kn_82 Km_82 Rall_82 Ka_82 Rs1_82 Rs2_82 Rs3_82 Rs4_82 hb hr
      have Cs5 := Lib.hid hc
      have Ms5 := Lib.hid hh
      clear hc hh
      refine hK.out _ _ ⟨HB84.out, K0_84.out, K1_84.out, K2_84.out, Kn_84.out, Km_84.out, Ka_84.out⟩ ?_
      clear hK K
      try simp only [Act.put, List.setIfInBounds_toArray, List.set_cons_zero, List.set_cons_succ]
      refine wpTr_one ?_
      refine stepTr_K (by simp only [List.getElem?_toArray, List.getElem?_cons_zero, List.getElem?_cons_succ]; rfl) (by rfl) (fun K hK => ?_)
      go_simp
      refine (or_any A0 As5 c0 cs5 l0 rs5 _ HR0_84.out Rs5_84.out (by omega) (by have := can_len Cs5.out; omega)).mono ?_
      rintro e w85 ⟨As6, cs6, rs6, rfl, hc, hh, hr, hb⟩
      have hbc := hb
      have HB86 := Lib.hid (below_then HB84.out hbc (Nat.le_refl _))
      have HR0_86 := Lib.hid ((HR0_84.out.below hbc).lt)
      have HR1_86 := Lib.hid ((HR1_84.out.below hbc).lt)
      have HR2_86 := Lib.hid ((HR2_84.out.below hbc).lt)
      have K0_86 := Lib.hid (K0_84.out.after hbc)
      have K1_86 := Lib.hid (K1_84.out.after hbc)
      have K2_86 := Lib.hid (K2_84.out.after hbc)
      have Rm_86 := Lib.hid ((Rm_84.out.below hbc).lt)
      have Kn_86 := Lib.hid (Kn_84.out.after hbc)
      have Km_86 := Lib.hid (Km_84.out.after hbc)
      have Rall_86 := Lib.hid ((Rall_84.out.below hbc).lt)
      have Ka_86 := Lib.hid (Ka_84.out.after hbc)
      have Rs1_86 := Lib.hid ((Rs1_84.out.below hbc).lt)
      have Rs2_86 := Lib.hid ((Rs2_84.out.below hbc).lt)
      have Rs3_86 := Lib.hid ((Rs3_84.out.below hbc).lt)
      have Rs4_86 := Lib.hid ((Rs4_84.out.below hbc).lt)
      have Rs5_86 := Lib.hid ((Rs5_84.out.below hbc).lt)
      have Rs6_86 := Lib.hid (hr)
      clear hbc HB84 HR0_84 HR1_84 HR2_84 K0_84 K1_84 K2_84 Rm_84 Kn_84 Km_84 Rall_84 Ka_84 Rs1_84 Rs2_84 Rs3_84 Rs4_84 Rs5_84 hb hr
      have Cs6 := Lib.hid hc
      have Ms6 := Lib.hid hh
      clear hc hh
      refine hK.out _ _ ⟨HB86.out, K0_86.out, K1_86.out, K2_86.out, Kn_86.out, Km_86.out, Ka_86.out⟩ ?_
      clear hK K
      try simp only [Act.put, List.setIfInBounds_toArray, List.set_cons_zero, List.set_cons_succ]
      refine wpTr_one ?_
      refine stepTr_K (by simp only [List.getElem?_toArray, List.getElem?_cons_zero, List.getElem?_cons_succ]; rfl) (by rfl) (fun K hK => ?_)
      go_simp
      refine (same_any As6 Aall cs6 call _ _ rs6 rall rfl rfl _ Rs6_86.out Rall_86.out (by have := can_len Cs6.out; simp only [maxLen]; omega) (by have := can_len Call.out; simp only [maxLen]; omega) true (decide_eq_true (can_eq Cs6.out Call.out (fun x => by
                simp only [has_nil, Ms6.out, Ms5.out, Mall.out]
                by_cases hk : codeP x
                · by_cases hh0 : hasP l0 x <;> by_cases hh1 : hasP l1 x <;> by_cases hh2 : hasP l2 x <;> simp [hk, hh0]
                · have hh0 : ¬ hasP l0 x := fun h => hk h.1
                  have hh1 : ¬ hasP l1 x := fun h => hk h.1
                  have hh2 : ¬ hasP l2 x := fun h => hk h.1
                  simp [hk, hh0])))).mono ?_
      rintro e w87 ⟨rfl, hb⟩
      have hbc := hb
      have HB88 := Lib.hid (below_then HB86.out hbc (Nat.le_refl _))
      have HR0_88 := Lib.hid ((HR0_86.out.below hbc).lt)
      have HR1_88 := Lib.hid ((HR1_86.out.below hbc).lt)
      have HR2_88 := Lib.hid ((HR2_86.out.below hbc).lt)
      have K0_88 := Lib.hid (K0_86.out.after hbc)
      have K1_88 := Lib.hid (K1_86.out.after hbc)
      have K2_88 := Lib.hid (K2_86.out.after hbc)
      have Rm_88 := Lib.hid ((Rm_86.out.below hbc).lt)
      have Kn_88 := Lib.hid (Kn_86.out.after hbc)
      have Km_88 := Lib.hid (Km_86.out.after hbc)
      have Rall_88 := Lib.hid ((Rall_86.out.below hbc).lt)
      have Ka_88 := Lib.hid (Ka_86.out.after hbc)
      have Rs1_88 := Lib.hid ((Rs1_86.out.below hbc).lt)
      have Rs2_88 := Lib.hid ((Rs2_86.out.below hbc).lt)
      have Rs3_88 := Lib.hid ((Rs3_86.out.below hbc).lt)
      have Rs4_88 := Lib.hid ((Rs4_86.out.below hbc).lt)
      have Rs5_88 := Lib.hid ((Rs5_86.out.below hbc).lt)
      have Rs6_88 := Lib.hid ((Rs6_86.out.below hbc).lt)
      clear hbc HB86 HR0_86 HR1_86 HR2_86 K0_86 K1_86 K2_86 Rm_86 Kn_86 Km_86 Rall_86 Ka_86 Rs1_86 Rs2_86 Rs3_86 Rs4_86 Rs5_86 Rs6_86 hb
      refine hK.out _ _ ⟨HB88.out, K0_88.out, K1_88.out, K2_88.out, Kn_88.out, Km_88.out, Ka_88.out⟩ ?_
      clear hK K
      try simp only [Act.put, List.setIfInBounds_toArray, List.set_cons_zero, List.set_cons_succ]
      repeat (first
        | (refine wpTr_fskip (by simp only [List.getElem?_toArray, List.getElem?_cons_zero, List.getElem?_cons_succ]; rfl) (by rfl) ?_
           simp only [Act.put, List.setIfInBounds_toArray, List.set_cons_zero, List.set_cons_succ])
        | (refine wpTr_float (v := ?_) (by simp only [List.getElem?_toArray, List.getElem?_cons_zero, List.getElem?_cons_succ]; rfl) (by rfl) (fun w' hS => ?_) ?_
           rotate_left
           (obtain ⟨hSb, hSb0, hSb1, hSb2, hSbn, hSbm, hSba⟩ := hS; have eSb0 := hSb0.cell 0; have lSb0 := hSb0.lt; simp at eSb0; have eSb1 := hSb1.cell 0; have lSb1 := hSb1.lt; simp at eSb1; have eSb2 := hSb2.cell 0; have lSb2 := hSb2.lt; simp at eSb2; have eSbn := hSbn.cell 0; have lSbn := hSbn.lt; simp at eSbn; have eSbm := hSbm.cell 0; have lSbm := hSbm.lt; simp at eSbm; have eSba := hSba.cell 0; have lSba := hSba.lt; simp at eSba; go_simp; first | done | rfl)
           simp only [Act.put, List.setIfInBounds_toArray, List.set_cons_zero, List.set_cons_succ]))
      refine wpTr_one ?_
      refine stepTr_K (by simp only [List.getElem?_toArray, List.getElem?_cons_zero, List.getElem?_cons_succ]; rfl) (by rfl) (fun K hK => ?_)
      go_simp
      refine (not_any A0 c0 l0 _ HR0_88.out (by omega)).mono ?_
      rintro e w89 ⟨As7, cs7, rs7, rfl, hc, hh, hr, hb⟩
      have hbc := hb
      have HB90 := Lib.hid (below_then HB88.out hbc (Nat.le_refl _))
      have HR0_90 := Lib.hid ((HR0_88.out.below hbc).lt)
      have HR1_90 := Lib.hid ((HR1_88.out.below hbc).lt)
      have HR2_90 := Lib.hid ((HR2_88.out.below hbc).lt)
      have K0_90 := Lib.hid (K0_88.out.after hbc)
      have K1_90 := Lib.hid (K1_88.out.after hbc)
      have K2_90 := Lib.hid (K2_88.out.after hbc)
      have Rm_90 := Lib.hid ((Rm_88.out.below hbc).lt)
      have Kn_90 := Lib.hid (Kn_88.out.after hbc)
      have Km_90 := Lib.hid (Km_88.out.after hbc)
      have Rall_90 := Lib.hid ((Rall_88.out.below hbc).lt)
      have Ka_90 := Lib.hid (Ka_88.out.after hbc)
      have Rs1_90 := Lib.hid ((Rs1_88.out.below hbc).lt)
      have Rs2_90 := Lib.hid ((Rs2_88.out.below hbc).lt)
      have Rs3_90 := Lib.hid ((Rs3_88.out.below hbc).lt)
      have Rs4_90 := Lib.hid ((Rs4_88.out.below hbc).lt)
      have Rs5_90 := Lib.hid ((Rs5_88.out.below hbc).lt)
      have Rs6_90 := Lib.hid ((Rs6_88.out.below hbc).lt)
      have Rs7_90 := Lib.hid (hr)
      clear hbc HB88 HR0_88 HR1_88 HR2_88 K0_88 K1_88 K2_88 Rm_88 Kn_88 Km_88 Rall_88 Ka_88 Rs1_88 Rs2_88 Rs3_88 Rs4_88 Rs5_88 Rs6_88 hb hr
      have Cs7 := Lib.hid hc
      have Ms7 := Lib.hid hh
      clear hc hh
      refine hK.out _ _ ⟨HB90.out, K0_90.out, K1_90.out, K2_90.out, Kn_90.out, Km_90.out, Ka_90.out⟩ ?_
      clear hK K
      try simp only [Act.put, List.setIfInBounds_toArray, List.set_cons_zero, List.set_cons_succ]
      refine wpTr_one ?_
      refine stepTr_K (by simp only [List.getElem?_toArray, List.getElem?_cons_zero, List.getElem?_cons_succ]; rfl) (by rfl) (fun K hK => ?_)
      go_simp
      refine (and_any A0 As7 c0 cs7 l0 rs7 _ HR0_90.out Rs7_90.out (by omega) (by have := can_len Cs7.out; omega)).mono ?_
      rintro e w91 ⟨As8, cs8, rs8, rfl, hc, hh, hr, hb⟩
      have hbc := hb
      have HB92 := Lib.hid (below_then HB90.out hbc (Nat.le_refl _))
      have HR0_92 := Lib.hid ((HR0_90.out.below hbc).lt)
      have HR1_92 := Lib.hid ((HR1_90.out.below hbc).lt)
      have HR2_92 := Lib.hid ((HR2_90.out.below hbc).lt)
      have K0_92 := Lib.hid (K0_90.out.after hbc)
      have K1_92 := Lib.hid (K1_90.out.after hbc)
      have K2_92 := Lib.hid (K2_90.out.after hbc)
      have Rm_92 := Lib.hid ((Rm_90.out.below hbc).lt)
      have Kn_92 := Lib.hid (Kn_90.out.after hbc)
      have Km_92 := Lib.hid (Km_90.out.after hbc)
      have Rall_92 := Lib.hid ((Rall_90.out.below hbc).lt)
      have Ka_92 := Lib.hid (Ka_90.out.after hbc)
      have Rs1_92 := Lib.hid ((Rs1_90.out.below hbc).lt)
      have Rs2_92 := Lib.hid ((Rs2_90.out.below hbc).lt)
      have Rs3_92 := Lib.hid ((Rs3_90.out.below hbc).lt)
      have Rs4_92 := Lib.hid ((Rs4_90.out.below hbc).lt)
      have Rs5_92 := Lib.hid ((Rs5_90.out.below hbc).lt)
      have Rs6_92 := Lib.hid ((Rs6_90.out.below hbc).lt)
      have Rs7_92 := Lib.hid ((Rs7_90.out.below hbc).lt)
      have Rs8_92 := Lib.hid (hr)
      clear hbc HB90 HR0_90 HR1_90 HR2_90 K0_90 K1_90 K2_90 Rm_90 Kn_90 Km_90 Rall_90 Ka_90 Rs1_90 Rs2_90 Rs3_90 Rs4_90 Rs5_90 Rs6_90 Rs7_90 hb hr
      have Cs8 := Lib.hid hc
      have Ms8 := Lib.hid hh
      clear hc hh
      obtain rfl : rs8 = [] := List.eq_nil_of_length_eq_zero ((can_empty Cs8.out).2 (fun x => by simp only [Ms8.out, Ms7.out]; rintro ⟨h1, h2, h3⟩; exact h3 h1))
      refine hK.out _ _ ⟨HB92.out, K0_92.out, K1_92.out, K2_92.out, Kn_92.out, Km_92.out, Ka_92.out⟩ ?_
      clear hK K
      try simp only [Act.put, List.setIfInBounds_toArray, List.set_cons_zero, List.set_cons_succ]
      repeat (first
        | (refine wpTr_fskip (by simp only [List.getElem?_toArray, List.getElem?_cons_zero, List.getElem?_cons_succ]; rfl) (by rfl) ?_
           simp only [Act.put, List.setIfInBounds_toArray, List.set_cons_zero, List.set_cons_succ])
        | (refine wpTr_float (v := ?_) (by simp only [List.getElem?_toArray, List.getElem?_cons_zero, List.getElem?_cons_succ]; rfl) (by rfl) (fun w' hS => ?_) ?_
           rotate_left
           (obtain ⟨hSb, hSb0, hSb1, hSb2, hSbn, hSbm, hSba⟩ := hS; have eSb0 := hSb0.cell 0; have lSb0 := hSb0.lt; simp at eSb0; have eSb1 := hSb1.cell 0; have lSb1 := hSb1.lt; simp at eSb1; have eSb2 := hSb2.cell 0; have lSb2 := hSb2.lt; simp at eSb2; have eSbn := hSbn.cell 0; have lSbn := hSbn.lt; simp at eSbn; have eSbm := hSbm.cell 0; have lSbm := hSbm.lt; simp at eSbm; have eSba := hSba.cell 0; have lSba := hSba.lt; simp at eSba; go_simp; first | done | rfl)
           simp only [Act.put, List.setIfInBounds_toArray, List.set_cons_zero, List.set_cons_succ]))
      refine wpTr_done ?_
      clear Rs1_92
      clear Rs2_92
      clear Rs3_92
      clear Rs4_92
      clear Rs5_92
      clear Rs6_92
      clear Rs7_92
      clear Rs8_92
      clear Rall_92
      go_wp2_with fail
      refine wp_region_tree (fun w' => Below w.heap.size w w' ∧ Blk w' b0 24 #[.slice A0 l0.length c0] ∧ Blk w' b1 24 #[.slice A1 l1.length c1] ∧ Blk w' b2 24 #[.slice A2 l2.length c2] ∧ Blk w' bn 24 #[.slice none 0 0] ∧ Blk w' bm 24 #[.slice Am rm.length cm] ∧ Blk w' ba 24 #[.slice Aall rall.length call]) (.float 0 (.float 1 (.float 3 (.float 4 (.one 2 (.one 5 (.one 6 (.float 7 (.float 8 (.float 9 (.float 11 (.float 12 (.one 10 (.one 13 (.one 14 (.float 15 (.float 16 (.float 17 (.float 18 (.float 20 (.one 19 (.one 21 (.float 22 (.float 23 (.float 24 (.float 25 (.float 27 (.one 26 (.one 28 (.float 29 (.float 30 (.one 31 (.float 32 (.float 33 .done)))))))))))))))))))))))))))))))))) (by kernel_rfl) (by kernel_rfl) (fun _ _ d _ _ h => by cases d <;> exact h) ⟨HB92.out.drew, K0_92.out.drew, K1_92.out.drew, K2_92.out.drew, Kn_92.out.drew, Km_92.out.drew, Ka_92.out.drew⟩ ?_
      obtain ⟨d93, hdr, hbd⟩ : ∃ d, d = w91.drew ∧ Below w91.heap.size w91 d := ⟨_, rfl, (Below.refl _ _).drew⟩
      rw [← hdr]
      clear hdr
      have hbc := hbd
      have HB94 := Lib.hid (below_then HB92.out hbc (Nat.le_refl _))
      have HR0_94 := Lib.hid ((HR0_92.out.below hbc).lt)
      have HR1_94 := Lib.hid ((HR1_92.out.below hbc).lt)
      have HR2_94 := Lib.hid ((HR2_92.out.below hbc).lt)
      have K0_94 := Lib.hid (K0_92.out.after hbc)
      have K1_94 := Lib.hid (K1_92.out.after hbc)
      have K2_94 := Lib.hid (K2_92.out.after hbc)
      have Rm_94 := Lib.hid ((Rm_92.out.below hbc).lt)
      have Kn_94 := Lib.hid (Kn_92.out.after hbc)
      have Km_94 := Lib.hid (Km_92.out.after hbc)
      have Ka_94 := Lib.hid (Ka_92.out.after hbc)
      clear hbc HB92 HR0_92 HR1_92 HR2_92 K0_92 K1_92 K2_92 Rm_92 Kn_92 Km_92 Ka_92 hbd
      repeat (first
        | (refine wpTr_fskip (by simp only [List.getElem?_toArray, List.getElem?_cons_zero, List.getElem?_cons_succ]; rfl) (by rfl) ?_
           simp only [Act.put, List.setIfInBounds_toArray, List.set_cons_zero, List.set_cons_succ])
        | (refine wpTr_float (v := ?_) (by simp only [List.getElem?_toArray, List.getElem?_cons_zero, List.getElem?_cons_succ]; rfl) (by rfl) (fun w' hS => ?_) ?_
           rotate_left
           (obtain ⟨hSb, hSb0, hSb1, hSb2, hSbn, hSbm, hSba⟩ := hS; have eSb0 := hSb0.cell 0; have lSb0 := hSb0.lt; simp at eSb0; have eSb1 := hSb1.cell 0; have lSb1 := hSb1.lt; simp at eSb1; have eSb2 := hSb2.cell 0; have lSb2 := hSb2.lt; simp at eSb2; have eSbn := hSbn.cell 0; have lSbn := hSbn.lt; simp at eSbn; have eSbm := hSbm.cell 0; have lSbm := hSbm.lt; simp at eSbm; have eSba := hSba.cell 0; have lSba := hSba.lt; simp at eSba; go_simp; first | done | rfl)
           simp only [Act.put, List.setIfInBounds_toArray, List.set_cons_zero, List.set_cons_succ]))
      refine wpTr_one ?_
      refine stepTr_K (by simp only [List.getElem?_toArray, List.getElem?_cons_zero, List.getElem?_cons_succ]; rfl) (by rfl) (fun K hK => ?_)
      go_simp
      refine (or_any A0 A1 c0 c1 l0 l1 _ HR0_94.out HR1_94.out (by omega) (by omega)).mono ?_
      rintro e w95 ⟨At1, ct1, rt1, rfl, hc, hh, hr, hb⟩
      have hbc := hb
      have HB96 := Lib.hid (below_then HB94.out hbc (Nat.le_refl _))
      have HR0_96 := Lib.hid ((HR0_94.out.below hbc).lt)
      have HR1_96 := Lib.hid ((HR1_94.out.below hbc).lt)
      have HR2_96 := Lib.hid ((HR2_94.out.below hbc).lt)
      have K0_96 := Lib.hid (K0_94.out.after hbc)
      have K1_96 := Lib.hid (K1_94.out.after hbc)
      have K2_96 := Lib.hid (K2_94.out.after hbc)
      have Rm_96 := Lib.hid ((Rm_94.out.below hbc).lt)
      have Kn_96 := Lib.hid (Kn_94.out.after hbc)
      have Km_96 := Lib.hid (Km_94.out.after hbc)
      have Ka_96 := Lib.hid (Ka_94.out.after hbc)
      have Rt1_96 := Lib.hid (hr)
      clear hbc HB94 HR0_94 HR1_94 HR2_94 K0_94 K1_94 K2_94 Rm_94 Kn_94 Km_94 Ka_94 hb hr
      have Ct1 := Lib.hid hc
      have Mt1 := Lib.hid hh
      clear hc hh
      refine hK.out _ _ ⟨HB96.out, K0_96.out, K1_96.out, K2_96.out, Kn_96.out, Km_96.out, Ka_96.out⟩ ?_
      clear hK K
      try simp only [Act.put, List.setIfInBounds_toArray, List.set_cons_zero, List.set_cons_succ]
      refine wpTr_one ?_
      refine stepTr_K (by simp only [List.getElem?_toArray, List.getElem?_cons_zero, List.getElem?_cons_succ]; rfl) (by rfl) (fun K hK => ?_)
      go_simp
      refine (or_any A1 A0 c1 c0 l1 l0 _ HR1_96.out HR0_96.out (by omega) (by omega)).mono ?_
      rintro e w97 ⟨At2, ct2, rt2, rfl, hc, hh, hr, hb⟩
      have hbc := hb
      have HB98 := Lib.hid (below_then HB96.out hbc (Nat.le_refl _))
      have HR0_98 := Lib.hid ((HR0_96.out.below hbc).lt)
      have HR1_98 := Lib.hid ((HR1_96.out.below hbc).lt)
      have HR2_98 := Lib.hid ((HR2_96.out.below hbc).lt)
      have K0_98 := Lib.hid (K0_96.out.after hbc)
      have K1_98 := Lib.hid (K1_96.out.after hbc)
      have K2_98 := Lib.hid (K2_96.out.after hbc)
      have Rm_98 := Lib.hid ((Rm_96.out.below hbc).lt)
      have Kn_98 := Lib.hid (Kn_96.out.after hbc)
      have Km_98 := Lib.hid (Km_96.out.after hbc)
      have Ka_98 := Lib.hid (Ka_96.out.after hbc)
      have Rt1_98 := Lib.hid ((Rt1_96.out.below hbc).lt)
      have Rt2_98 := Lib.hid (hr)
      clear hbc HB96 HR0_96 HR1_96 HR2_96 K0_96 K1_96 K2_96 Rm_96 Kn_96 Km_96 Ka_96 Rt1_96 hb hr
      have Ct2 := Lib.hid hc
      have Mt2 := Lib.hid hh
      clear hc hh
      refine hK.out _ _ ⟨HB98.out, K0_98.out, K1_98.out, K2_98.out, Kn_98.out, Km_98.out, Ka_98.out⟩ ?_
      clear hK K
      try simp only [Act.put, List.setIfInBounds_toArray, List.set_cons_zero, List.set_cons_succ]
      refine wpTr_one ?_
      refine stepTr_K (by simp only [List.getElem?_toArray, List.getElem?_cons_zero, List.getElem?_cons_succ]; rfl) (by rfl) (fun K hK => ?_)
      go_simp
      refine (same_any At1 At2 ct1 ct2 _ _ rt1 rt2 rfl rfl _ Rt1_98.out Rt2_98.out (by have := can_len Ct1.out; simp only [maxLen]; omega) (by have := can_len Ct2.out; simp only [maxLen]; omega) true (decide_eq_true (can_eq Ct1.out Ct2.out (fun x => by
                simp only [Mt1.out, Mt2.out]
                by_cases hk : codeP x
                · by_cases hh0 : hasP l0 x <;> by_cases hh1 : hasP l1 x <;> by_cases hh2 : hasP l2 x <;> simp [hh0, hh1]
                · have hh0 : ¬ hasP l0 x := fun h => hk h.1
                  have hh1 : ¬ hasP l1 x := fun h => hk h.1
                  have hh2 : ¬ hasP l2 x := fun h => hk h.1
                  simp [hh0, hh1])))).mono ?_
      rintro e w99 ⟨rfl, hb⟩
      have hbc := hb
      have HB100 := Lib.hid (below_then HB98.out hbc (Nat.le_refl _))
      have HR0_100 := Lib.hid ((HR0_98.out.below hbc).lt)
      have HR1_100 := Lib.hid ((HR1_98.out.below hbc).lt)
      have HR2_100 := Lib.hid ((HR2_98.out.below hbc).lt)
      have K0_100 := Lib.hid (K0_98.out.after hbc)
      have K1_100 := Lib.hid (K1_98.out.after hbc)
      have K2_100 := Lib.hid (K2_98.out.after hbc)
      have Rm_100 := Lib.hid ((Rm_98.out.below hbc).lt)
      have Kn_100 := Lib.hid (Kn_98.out.after hbc)
      have Km_100 := Lib.hid (Km_98.out.after hbc)
      have Ka_100 := Lib.hid (Ka_98.out.after hbc)
      have Rt1_100 := Lib.hid ((Rt1_98.out.below hbc).lt)
      have Rt2_100 := Lib.hid ((Rt2_98.out.below hbc).lt)
      clear hbc HB98 HR0_98 HR1_98 HR2_98 K0_98 K1_98 K2_98 Rm_98 Kn_98 Km_98 Ka_98 Rt1_98 Rt2_98 hb
      refine hK.out _ _ ⟨HB100.out, K0_100.out, K1_100.out, K2_100.out, Kn_100.out, Km_100.out, Ka_100.out⟩ ?_
      clear hK K
      try simp only [Act.put, List.setIfInBounds_toArray, List.set_cons_zero, List.set_cons_succ]
      repeat (first
        | (refine wpTr_fskip (by simp only [List.getElem?_toArray, List.getElem?_cons_zero, List.getElem?_cons_succ]; rfl) (by rfl) ?_
           simp only [Act.put, List.setIfInBounds_toArray, List.set_cons_zero, List.set_cons_succ])
        | (refine wpTr_float (v := ?_) (by simp only [List.getElem?_toArray, List.getElem?_cons_zero, List.getElem?_cons_succ]; rfl) (by rfl) (fun w' hS => ?_) ?_
           rotate_left
           (obtain ⟨hSb, hSb0, hSb1, hSb2, hSbn, hSbm, hSba⟩ := hS; have eSb0 := hSb0.cell 0; have lSb0 := hSb0.lt; simp at eSb0; have eSb1 := hSb1.cell 0; have lSb1 := hSb1.lt; simp at eSb1; have eSb2 := hSb2.cell 0; have lSb2 := hSb2.lt; simp at eSb2; have eSbn := hSbn.cell 0; have lSbn := hSbn.lt; simp at eSbn; have eSbm := hSbm.cell 0; have lSbm := hSbm.lt; simp at eSbm; have eSba := hSba.cell 0; have lSba := hSba.lt; simp at eSba; go_simp; first | done | rfl)
           simp only [Act.put, List.setIfInBounds_toArray, List.set_cons_zero, List.set_cons_succ]))
      refine wpTr_one ?_
      refine stepTr_K (by simp only [List.getElem?_toArray, List.getElem?_cons_zero, List.getElem?_cons_succ]; rfl) (by rfl) (fun K hK => ?_)
      go_simp
      refine (and_any A0 A1 c0 c1 l0 l1 _ HR0_100.out HR1_100.out (by omega) (by omega)).mono ?_
      rintro e w101 ⟨At3, ct3, rt3, rfl, hc, hh, hr, hb⟩
      have hbc := hb
      have HB102 := Lib.hid (below_then HB100.out hbc (Nat.le_refl _))
      have HR0_102 := Lib.hid ((HR0_100.out.below hbc).lt)
      have HR1_102 := Lib.hid ((HR1_100.out.below hbc).lt)
      have HR2_102 := Lib.hid ((HR2_100.out.below hbc).lt)
      have K0_102 := Lib.hid (K0_100.out.after hbc)
      have K1_102 := Lib.hid (K1_100.out.after hbc)
      have K2_102 := Lib.hid (K2_100.out.after hbc)
      have Rm_102 := Lib.hid ((Rm_100.out.below hbc).lt)
      have Kn_102 := Lib.hid (Kn_100.out.after hbc)
      have Km_102 := Lib.hid (Km_100.out.after hbc)
      have Ka_102 := Lib.hid (Ka_100.out.after hbc)
      have Rt1_102 := Lib.hid ((Rt1_100.out.below hbc).lt)
      have Rt2_102 := Lib.hid ((Rt2_100.out.below hbc).lt)
      have Rt3_102 := Lib.hid (hr)
      clear hbc HB100 HR0_100 HR1_100 HR2_100 K0_100 K1_100 K2_100 Rm_100 Kn_100 Km_100 Ka_100 Rt1_100 Rt2_100 hb hr
      have Ct3 := Lib.hid hc
      have Mt3 := Lib.hid hh
      clear hc hh
      refine hK.out _ _ ⟨HB102.out, K0_102.out, K1_102.out, K2_102.out, Kn_102.out, Km_102.out, Ka_102.out⟩ ?_
      clear hK K
      try simp only [Act.put, List.setIfInBounds_toArray, List.set_cons_zero, List.set_cons_succ]
      refine wpTr_one ?_
      refine stepTr_K (by simp only [List.getElem?_toArray, List.getElem?_cons_zero, List.getElem?_cons_succ]; rfl) (by rfl) (fun K hK => ?_)
      go_simp
      refine (and_any A1 A0 c1 c0 l1 l0 _ HR1_102.out HR0_102.out (by omega) (by omega)).mono ?_
      rintro e w103 ⟨At4, ct4, rt4, rfl, hc, hh, hr, hb⟩
      have hbc := hb
      have HB104 := Lib.hid (below_then HB102.out hbc (Nat.le_refl _))
      have HR0_104 := Lib.hid ((HR0_102.out.below hbc).lt)
      have HR1_104 := Lib.hid ((HR1_102.out.below hbc).lt)
      have HR2_104 := Lib.hid ((HR2_102.out.below hbc).lt)
      have K0_104 := Lib.hid (K0_102.out.after hbc)
      have K1_104 := Lib.hid (K1_102.out.after hbc)
      have K2_104 := Lib.hid (K2_102.out.after hbc)
      have Rm_104 := Lib.hid ((Rm_102.out.below hbc).lt)
      have Kn_104 := Lib.hid (Kn_102.out.after hbc)
      have Km_104 := Lib.hid (Km_102.out.after hbc)
      have Ka_104 := Lib.hid (Ka_102.out.after hbc)
      have Rt1_104 := Lib.hid ((Rt1_102.out.below hbc).lt)
      have Rt2_104 := Lib.hid ((Rt2_102.out.below hbc).lt)
      have Rt3_104 := Lib.hid ((Rt3_102.out.below hbc).lt)
      have Rt4_104 := Lib.hid (hr)
      clear hbc HB102 HR0_102 HR1_102 HR2_102 K0_102 K1_102 K2_102 Rm_102 Kn_102 Km_102 Ka_102 Rt1_102 Rt2_102 Rt3_102 hb hr
      have Ct4 := Lib.hid hc
      have Mt4 := Lib.hid hh
      clear hc hh
      refine hK.out _ _ ⟨HB104.out, K0_104.out, K1_104.out, K2_104.out, Kn_104.out, Km_104.out, Ka_104.out⟩ ?_
      clear hK K
      try simp only [Act.put, List.setIfInBounds_toArray, List.set_cons_zero, List.set_cons_succ]
      refine wpTr_one ?_
      refine stepTr_K (by simp only [List.getElem?_toArray, List.getElem?_cons_zero, List.getElem?_cons_succ]; rfl) (by rfl) (fun K hK => ?_)
      go_simp
      refine (same_any At3 At4 ct3 ct4 _ _ rt3 rt4 rfl rfl _ Rt3_104.out Rt4_104.out (by have := can_len Ct3.out; simp only [maxLen]; omega) (by have := can_len Ct4.out; simp only [maxLen]; omega) true (decide_eq_true (can_eq Ct3.out Ct4.out (fun x => by
                simp only [Mt3.out, Mt4.out]
                by_cases hk : codeP x
                · by_cases hh0 : hasP l0 x <;> by_cases hh1 : hasP l1 x <;> by_cases hh2 : hasP l2 x <;> simp [hh0, hh1]
                · have hh0 : ¬ hasP l0 x := fun h => hk h.1
                  have hh1 : ¬ hasP l1 x := fun h => hk h.1
                  have hh2 : ¬ hasP l2 x := fun h => hk h.1
                  simp [hh0, hh1])))).mono ?_
      rintro e w105 ⟨rfl, hb⟩
      have hbc := hb
      have HB106 := Lib.hid (below_then HB104.out hbc (Nat.le_refl _))
      have HR0_106 := Lib.hid ((HR0_104.out.below hbc).lt)
      have HR1_106 := Lib.hid ((HR1_104.out.below hbc).lt)
      have HR2_106 := Lib.hid ((HR2_104.out.below hbc).lt)
      have K0_106 := Lib.hid (K0_104.out.after hbc)
      have K1_106 := Lib.hid (K1_104.out.after hbc)
      have K2_106 := Lib.hid (K2_104.out.after hbc)
      have Rm_106 := Lib.hid ((Rm_104.out.below hbc).lt)
      have Kn_106 := Lib.hid (Kn_104.out.after hbc)
      have Km_106 := Lib.hid (Km_104.out.after hbc)
      have Ka_106 := Lib.hid (Ka_104.out.after hbc)
      have Rt1_106 := Lib.hid ((Rt1_104.out.below hbc).lt)
      have Rt2_106 := Lib.hid ((Rt2_104.out.below hbc).lt)
      have Rt3_106 := Lib.hid ((Rt3_104.out.below hbc).lt)
      have Rt4_106 := Lib.hid ((Rt4_104.out.below hbc).lt)
      clear hbc HB104 HR0_104 HR1_104 HR2_104 K0_104 K1_104 K2_104 Rm_104 Kn_104 Km_104 Ka_104 Rt1_104 Rt2_104 Rt3_104 Rt4_104 hb
      refine hK.out _ _ ⟨HB106.out, K0_106.out, K1_106.out, K2_106.out, Kn_106.out, Km_106.out, Ka_106.out⟩ ?_
      clear hK K
      try simp only [Act.put, List.setIfInBounds_toArray, List.set_cons_zero, List.set_cons_succ]
      repeat (first
        | (refine wpTr_fskip (by simp only [List.getElem?_toArray, List.getElem?_cons_zero, List.getElem?_cons_succ]; rfl) (by rfl) ?_
           simp only [Act.put, List.setIfInBounds_toArray, List.set_cons_zero, List.set_cons_succ])
        | (refine wpTr_float (v := ?_) (by simp only [List.getElem?_toArray, List.getElem?_cons_zero, List.getElem?_cons_succ]; rfl) (by rfl) (fun w' hS => ?_) ?_
           rotate_left
           (obtain ⟨hSb, hSb0, hSb1, hSb2, hSbn, hSbm, hSba⟩ := hS; have eSb0 := hSb0.cell 0; have lSb0 := hSb0.lt; simp at eSb0; have eSb1 := hSb1.cell 0; have lSb1 := hSb1.lt; simp at eSb1; have eSb2 := hSb2.cell 0; have lSb2 := hSb2.lt; simp at eSb2; have eSbn := hSbn.cell 0; have lSbn := hSbn.lt; simp at eSbn; have eSbm := hSbm.cell 0; have lSbm := hSbm.lt; simp at eSbm; have eSba := hSba.cell 0; have lSba := hSba.lt; simp at eSba; go_simp; first | done | rfl)
           simp only [Act.put, List.setIfInBounds_toArray, List.set_cons_zero, List.set_cons_succ]))
      refine wpTr_one ?_
      refine stepTr_K (by simp only [List.getElem?_toArray, List.getElem?_cons_zero, List.getElem?_cons_succ]; rfl) (by rfl) (fun K hK => ?_)
      go_simp
      refine (or_any A0 A0 c0 c0 l0 l0 _ HR0_106.out HR0_106.out (by omega) (by omega)).mono ?_
      rintro e w107 ⟨At5, ct5, rt5, rfl, hc, hh, hr, hb⟩
      have hbc := hb
      have HB108 := Lib.hid (below_then HB106.out hbc (Nat.le_refl _))
      have HR0_108 := Lib.hid ((HR0_106.out.below hbc).lt)
      have HR1_108 := Lib.hid ((HR1_106.out.below hbc).lt)
      have HR2_108 := Lib.hid ((HR2_106.out.below hbc).lt)
      have K0_108 := Lib.hid (K0_106.out.after hbc)
      have K1_108 := Lib.hid (K1_106.out.after hbc)
      have K2_108 := Lib.hid (K2_106.out.after hbc)
      have Rm_108 := Lib.hid ((Rm_106.out.below hbc).lt)
      have Kn_108 := Lib.hid (Kn_106.out.after hbc)
      have Km_108 := Lib.hid (Km_106.out.after hbc)
      have Ka_108 := Lib.hid (Ka_106.out.after hbc)
      have Rt1_108 := Lib.hid ((Rt1_106.out.below hbc).lt)
      have Rt2_108 := Lib.hid ((Rt2_106.out.below hbc).lt)
      have Rt3_108 := Lib.hid ((Rt3_106.out.below hbc).lt)
      have Rt4_108 := Lib.hid ((Rt4_106.out.below hbc).lt)
      have Rt5_108 := Lib.hid (hr)
      clear hbc HB106 HR0_106 HR1_106 HR2_106 K0_106 K1_106 K2_106 Rm_106 Kn_106 Km_106 Ka_106 Rt1_106 Rt2_106 Rt3_106 Rt4_106 hb hr
      have Ct5 := Lib.hid hc
      have Mt5 := Lib.hid hh
      clear hc hh
      refine hK.out _ _ ⟨HB108.out, K0_108.out, K1_108.out, K2_108.out, Kn_108.out, Km_108.out, Ka_108.out⟩ ?_
      clear hK K
      try simp only [Act.put, List.setIfInBounds_toArray, List.set_cons_zero, List.set_cons_succ]
      refine wpTr_one ?_
      refine stepTr_K (by simp only [List.getElem?_toArray, List.getElem?_cons_zero, List.getElem?_cons_succ]; rfl) (by rfl) (fun K hK => ?_)
      go_simp
      refine (same_any At5 Am ct5 cm _ _ rt5 rm rfl rfl _ Rt5_108.out Rm_108.out (by have := can_len Ct5.out; simp only [maxLen]; omega) (by have := can_len Cm.out; simp only [maxLen]; omega) true (decide_eq_true (can_eq Ct5.out Cm.out (fun x => by
                simp only [Mt5.out, Mm.out]
                by_cases hk : codeP x
                · by_cases hh0 : hasP l0 x <;> by_cases hh1 : hasP l1 x <;> by_cases hh2 : hasP l2 x <;> simp [hh0]
                · have hh0 : ¬ hasP l0 x := fun h => hk h.1
                  have hh1 : ¬ hasP l1 x := fun h => hk h.1
                  have hh2 : ¬ hasP l2 x := fun h => hk h.1
                  simp [hh0])))).mono ?_
      rintro e w109 ⟨rfl, hb⟩
      have hbc := hb
      have HB110 := Lib.hid (below_then HB108.out hbc (Nat.le_refl _))
      have HR0_110 := Lib.hid ((HR0_108.out.below hbc).lt)
      have HR1_110 := Lib.hid ((HR1_108.out.below hbc).lt)
      have HR2_110 := Lib.hid ((HR2_108.out.below hbc).lt)
      have K0_110 := Lib.hid (K0_108.out.after hbc)
      have K1_110 := Lib.hid (K1_108.out.after hbc)
      have K2_110 := Lib.hid (K2_108.out.after hbc)
      have Rm_110 := Lib.hid ((Rm_108.out.below hbc).lt)
      have Kn_110 := Lib.hid (Kn_108.out.after hbc)
      have Km_110 := Lib.hid (Km_108.out.after hbc)
      have Ka_110 := Lib.hid (Ka_108.out.after hbc)
      have Rt1_110 := Lib.hid ((Rt1_108.out.below hbc).lt)
      have Rt2_110 := Lib.hid ((Rt2_108.out.below hbc).lt)
      have Rt3_110 := Lib.hid ((Rt3_108.out.below hbc).lt)
      have Rt4_110 := Lib.hid ((Rt4_108.out.below hbc).lt)
      have Rt5_110 := Lib.hid ((Rt5_108.out.below hbc).lt)
      clear hbc HB108 HR0_108 HR1_108 HR2_108 K0_108 K1_108 K2_108 Rm_108 Kn_108 Km_108 Ka_108 Rt1_108 Rt2_108 Rt3_108 Rt4_108 Rt5_108 hb
      refine hK.out _ _ ⟨HB110.out, K0_110.out, K1_110.out, K2_110.out, Kn_110.out, Km_110.out, Ka_110.out⟩ ?_
      clear hK K
      try simp only [Act.put, List.setIfInBounds_toArray, List.set_cons_zero, List.set_cons_succ]
      repeat (first
        | (refine wpTr_fskip (by simp only [List.getElem?_toArray, List.getElem?_cons_zero, List.getElem?_cons_succ]; rfl) (by rfl) ?_
           simp only [Act.put, List.setIfInBounds_toArray, List.set_cons_zero, List.set_cons_succ])
        | (refine wpTr_float (v := ?_) (by simp only [List.getElem?_toArray, List.getElem?_cons_zero, List.getElem?_cons_succ]; rfl) (by rfl) (fun w' hS => ?_) ?_
           rotate_left
           (obtain ⟨hSb, hSb0, hSb1, hSb2, hSbn, hSbm, hSba⟩ := hS; have eSb0 := hSb0.cell 0; have lSb0 := hSb0.lt; simp at eSb0; have eSb1 := hSb1.cell 0; have lSb1 := hSb1.lt; simp at eSb1; have eSb2 := hSb2.cell 0; have lSb2 := hSb2.lt; simp at eSb2; have eSbn := hSbn.cell 0; have lSbn := hSbn.lt; simp at eSbn; have eSbm := hSbm.cell 0; have lSbm := hSbm.lt; simp at eSbm; have eSba := hSba.cell 0; have lSba := hSba.lt; simp at eSba; go_simp; first | done | rfl)
           simp only [Act.put, List.setIfInBounds_toArray, List.set_cons_zero, List.set_cons_succ]))
      refine wpTr_one ?_
      refine stepTr_K (by simp only [List.getElem?_toArray, List.getElem?_cons_zero, List.getElem?_cons_succ]; rfl) (by rfl) (fun K hK => ?_)
      go_simp
      refine (and_any A0 A0 c0 c0 l0 l0 _ HR0_110.out HR0_110.out (by omega) (by omega)).mono ?_
      rintro e w111 ⟨At6, ct6, rt6, rfl, hc, hh, hr, hb⟩
      have hbc := hb
      have HB112 := Lib.hid (below_then HB110.out hbc (Nat.le_refl _))
      have HR0_112 := Lib.hid ((HR0_110.out.below hbc).lt)
      have HR1_112 := Lib.hid ((HR1_110.out.below hbc).lt)
      have HR2_112 := Lib.hid ((HR2_110.out.below hbc).lt)
      have K0_112 := Lib.hid (K0_110.out.after hbc)
      have K1_112 := Lib.hid (K1_110.out.after hbc)
      have K2_112 := Lib.hid (K2_110.out.after hbc)
      have Rm_112 := Lib.hid ((Rm_110.out.below hbc).lt)
      have Kn_112 := Lib.hid (Kn_110.out.after hbc)
      have Km_112 := Lib.hid (Km_110.out.after hbc)
      have Ka_112 := Lib.hid (Ka_110.out.after hbc)
      have Rt1_112 := Lib.hid ((Rt1_110.out.below hbc).lt)
      have Rt2_112 := Lib.hid ((Rt2_110.out.below hbc).lt)
      have Rt3_112 := Lib.hid ((Rt3_110.out.below hbc).lt)
      have Rt4_112 := Lib.hid ((Rt4_110.out.below hbc).lt)
      have Rt5_112 := Lib.hid ((Rt5_110.out.below hbc).lt)
      have Rt6_112 := Lib.hid (hr)
      clear hbc HB110 HR0_110 HR1_110 HR2_110 K0_110 K1_110 K2_110 Rm_110 Kn_110 Km_110 Ka_110 Rt1_110 Rt2_110 Rt3_110 Rt4_110 Rt5_110 hb hr
      have Ct6 := Lib.hid hc
      have Mt6 := Lib.hid hh
      clear hc hh
      refine hK.out _ _ ⟨HB112.out, K0_112.out, K1_112.out, K2_112.out, Kn_112.out, Km_112.out, Ka_112.out⟩ ?_
      clear hK K
      try simp only [Act.put, List.setIfInBounds_toArray, List.set_cons_zero, List.set_cons_succ]
      refine wpTr_one ?_
      refine stepTr_K (by simp only [List.getElem?_toArray, List.getElem?_cons_zero, List.getElem?_cons_succ]; rfl) (by rfl) (fun K hK => ?_)
      go_simp
      refine (same_any At6 Am ct6 cm _ _ rt6 rm rfl rfl _ Rt6_112.out Rm_112.out (by have := can_len Ct6.out; simp only [maxLen]; omega) (by have := can_len Cm.out; simp only [maxLen]; omega) true (decide_eq_true (can_eq Ct6.out Cm.out (fun x => by
                simp only [Mt6.out, Mm.out]
                by_cases hk : codeP x
                · by_cases hh0 : hasP l0 x <;> by_cases hh1 : hasP l1 x <;> by_cases hh2 : hasP l2 x <;> simp [hh0]
                · have hh0 : ¬ hasP l0 x := fun h => hk h.1
                  have hh1 : ¬ hasP l1 x := fun h => hk h.1
                  have hh2 : ¬ hasP l2 x := fun h => hk h.1
                  simp [hh0])))).mono ?_
      rintro e w113 ⟨rfl, hb⟩
      have hbc := hb
      have HB114 := Lib.hid (below_then HB112.out hbc (Nat.le_refl _))
      have HR0_114 := Lib.hid ((HR0_112.out.below hbc).lt)
      have HR1_114 := Lib.hid ((HR1_112.out.below hbc).lt)
      have HR2_114 := Lib.hid ((HR2_112.out.below hbc).lt)
      have K0_114 := Lib.hid (K0_112.out.after hbc)
      have K1_114 := Lib.hid (K1_112.out.after hbc)
      have K2_114 := Lib.hid (K2_112.out.after hbc)
      have Rm_114 := Lib.hid ((Rm_112.out.below hbc).lt)
      have Kn_114 := Lib.hid (Kn_112.out.after hbc)
      have Km_114 := Lib.hid (Km_112.out.after hbc)
      have Ka_114 := Lib.hid (Ka_112.out.after hbc)
      have Rt1_114 := Lib.hid ((Rt1_112.out.below hbc).lt)
      have Rt2_114 := Lib.hid ((Rt2_112.out.below hbc).lt)
      have Rt3_114 := Lib.hid ((Rt3_112.out.below hbc).lt)
      have Rt4_114 := Lib.hid ((Rt4_112.out.below hbc).lt)
      have Rt5_114 := Lib.hid ((Rt5_112.out.below hbc).lt)
      have Rt6_114 := Lib.hid ((Rt6_112.out.below hbc).lt)
      clear hbc HB112 HR0_112 HR1_112 HR2_112 K0_112 K1_112 K2_112 Rm_112 Kn_112 Km_112 Ka_112 Rt1_112 Rt2_112 Rt3_112 Rt4_112 Rt5_112 Rt6_112 hb
      refine hK.out _ _ ⟨HB114.out, K0_114.out, K1_114.out, K2_114.out, Kn_114.out, Km_114.out, Ka_114.out⟩ ?_
      clear hK K
      try simp only [Act.put, List.setIfInBounds_toArray, List.set_cons_zero, List.set_cons_succ]
      repeat (first
        | (refine wpTr_fskip (by simp only [List.getElem?_toArray, List.getElem?_cons_zero, List.getElem?_cons_succ]; rfl) (by rfl) ?_
           simp only [Act.put, List.setIfInBounds_toArray, List.set_cons_zero, List.set_cons_succ])
        | (refine wpTr_float (v := ?_) (by simp only [List.getElem?_toArray, List.getElem?_cons_zero, List.getElem?_cons_succ]; rfl) (by rfl) (fun w' hS => ?_) ?_
           rotate_left
           (obtain ⟨hSb, hSb0, hSb1, hSb2, hSbn, hSbm, hSba⟩ := hS; have eSb0 := hSb0.cell 0; have lSb0 := hSb0.lt; simp at eSb0; have eSb1 := hSb1.cell 0; have lSb1 := hSb1.lt; simp at eSb1; have eSb2 := hSb2.cell 0; have lSb2 := hSb2.lt; simp at eSb2; have eSbn := hSbn.cell 0; have lSbn := hSbn.lt; simp at eSbn; have eSbm := hSbm.cell 0; have lSbm := hSbm.lt; simp at eSbm; have eSba := hSba.cell 0; have lSba := hSba.lt; simp at eSba; go_simp; first | done | rfl)
           simp only [Act.put, List.setIfInBounds_toArray, List.set_cons_zero, List.set_cons_succ]))
      refine wpTr_one ?_
      refine stepTr_K (by simp only [List.getElem?_toArray, List.getElem?_cons_zero, List.getElem?_cons_succ]; rfl) (by rfl) (fun K hK => ?_)
      go_simp
      refine (alive_any _ (HD.out.below HB114.out) (HM.out.below HB114.out)).mono ?_
      rintro e w115 ⟨rfl, hb⟩
      have hbc := hb
      have HB116 := Lib.hid (below_then HB114.out hbc (Nat.le_refl _))
      have HR0_116 := Lib.hid ((HR0_114.out.below hbc).lt)
      have HR1_116 := Lib.hid ((HR1_114.out.below hbc).lt)
      have HR2_116 := Lib.hid ((HR2_114.out.below hbc).lt)
      have K0_116 := Lib.hid (K0_114.out.after hbc)
      have K1_116 := Lib.hid (K1_114.out.after hbc)
      have K2_116 := Lib.hid (K2_114.out.after hbc)
      have Rm_116 := Lib.hid ((Rm_114.out.below hbc).lt)
      have Kn_116 := Lib.hid (Kn_114.out.after hbc)
      have Km_116 := Lib.hid (Km_114.out.after hbc)
      have Ka_116 := Lib.hid (Ka_114.out.after hbc)
      have Rt1_116 := Lib.hid ((Rt1_114.out.below hbc).lt)
      have Rt2_116 := Lib.hid ((Rt2_114.out.below hbc).lt)
      have Rt3_116 := Lib.hid ((Rt3_114.out.below hbc).lt)
      have Rt4_116 := Lib.hid ((Rt4_114.out.below hbc).lt)
      have Rt5_116 := Lib.hid ((Rt5_114.out.below hbc).lt)
      have Rt6_116 := Lib.hid ((Rt6_114.out.below hbc).lt)
      clear hbc HB114 HR0_114 HR1_114 HR2_114 K0_114 K1_114 K2_114 Rm_114 Kn_114 Km_114 Ka_114 Rt1_114 Rt2_114 Rt3_114 Rt4_114 Rt5_114 Rt6_114 hb
      refine hK.out _ _ ⟨HB116.out, K0_116.out, K1_116.out, K2_116.out, Kn_116.out, Km_116.out, Ka_116.out⟩ ?_
      clear hK K
      try simp only [Act.put, List.setIfInBounds_toArray, List.set_cons_zero, List.set_cons_succ]
      repeat (first
        | (refine wpTr_fskip (by simp only [List.getElem?_toArray, List.getElem?_cons_zero, List.getElem?_cons_succ]; rfl) (by rfl) ?_
           simp only [Act.put, List.setIfInBounds_toArray, List.set_cons_zero, List.set_cons_succ])
        | (refine wpTr_float (v := ?_) (by simp only [List.getElem?_toArray, List.getElem?_cons_zero, List.getElem?_cons_succ]; rfl) (by rfl) (fun w' hS => ?_) ?_
           rotate_left
           (obtain ⟨hSb, hSb0, hSb1, hSb2, hSbn, hSbm, hSba⟩ := hS; have eSb0 := hSb0.cell 0; have lSb0 := hSb0.lt; simp at eSb0; have eSb1 := hSb1.cell 0; have lSb1 := hSb1.lt; simp at eSb1; have eSb2 := hSb2.cell 0; have lSb2 := hSb2.lt; simp at eSb2; have eSbn := hSbn.cell 0; have lSbn := hSbn.lt; simp at eSbn; have eSbm := hSbm.cell 0; have lSbm := hSbm.lt; simp at eSbm; have eSba := hSba.cell 0; have lSba := hSba.lt; simp at eSba; go_simp; first | done | rfl)
           simp only [Act.put, List.setIfInBounds_toArray, List.set_cons_zero, List.set_cons_succ]))
      refine wpTr_done ?_
      go_wp2
      go_ret
      exact ⟨rfl, HB116.out⟩
end Go.Proofs.YtogfhaeohcpkjaaDoor.LAlgebra
