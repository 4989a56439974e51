/-
  CpsetEnumerates: the walk of the law: it returns true, nothing older changes.
-/
import Derived.Test.YtogfhaeohcpkjaaDoorCsL
import Derived.Test.YtogfhaeohcpkjaaDoorTree
import Derived.Deep.QuietTactic
import Derived.BigQuiet
import Derived.IntWalk
import Derived.Outline
import Derived.Test.YtogfhaeohcpkjaaDoorCr4
import Derived.Test.YtogfhaeohcpkjaaDoorCt3
namespace Go.Proofs.YtogfhaeohcpkjaaDoor.LEnumerates
open Go.ChangeShapes Go.WideShapes Go.ChangeAt Go.RowKit Go.UtYtogfhaeohcpkjaaDoor Go.Joins
theorem ex_can (A : Option Addr) (c : Nat) (l : List Rg) (w : World) (hR : Row w w.heap.size A (rgs l)) (hm : l.length ≤ 1099511627776) : ∃ r, Cnn r ∧ ∀ x, hasP r x ↔ hasP l x := by
  obtain ⟨e, w', fr, ⟨A2, c2, r, _, h1, h2, _⟩, _⟩ := make_any A c l w hR hm []
  exact ⟨r, h1, h2⟩
set_option maxRecDepth 100000 in
set_option maxHeartbeats 4000000 in
theorem walk (w : World) (hd : Digs w) (hm : MaxL w) (A0 : Option Addr) (c0 : Nat) (l0 : List Rg) (_lc0 : l0.length ≤ c0) (_lm0 : c0 ≤ maxLen) (hR0 : Row w w.heap.size A0 (rgs l0)) (s1 : Int) (_hs1 : -9223372036854775808 ≤ s1 ∧ s1 ≤ 9223372036854775807) :
    Calls Tryd.prog 4 #[.agg #[.slice A0 l0.length c0], .int .i64 s1] w fun e w' => e = .returned (.bool true) ∧ Below w.heap.size w w' := by
  have HD := Lib.hid hd
  have HM := Lib.hid hm
  clear hd hm
  have HB0 := Lib.hid (Below.refl w.heap.size w)
  have HR0_0 := Lib.hid hR0
  clear hR0
  obtain ⟨bS, hS⟩ : ∃ b, decide ((l0.length : Int) ≤ 12) = b := ⟨_, rfl⟩
  have HS := Lib.hid hS
  cases bS with
  | false =>
    clear hS
    go_enter Tryd.func4, Tryd.ntmps4
    go_wp2_with fail
    obtain ⟨n1, hv, hbb, hk0⟩ : ∃ v, v = (w.alloc (.cells #[.slice A0 l0.length c0] 24)) ∧ Below w.heap.size w v ∧ Blk v (w.heap.size) 24 #[.slice A0 l0.length c0] :=
      ⟨_, rfl, (Below.refl _ _).alloc (Nat.le_refl _) _, Blk.at_new (by simp; try omega)⟩
    rw [← hv]
    clear hv
    obtain ⟨b0, ha⟩ : ∃ a, a = w.heap.size := ⟨_, rfl⟩
    rw [← ha] at hk0 ⊢
    clear ha
    have hbc := hbb
    have HB2 := Lib.hid (below_then HB0.out hbc (Nat.le_refl _))
    have HR0_2 := Lib.hid ((HR0_0.out.below hbc).lt)
    have K0_2 := Lib.hid (hk0)
    clear hbc HB0 HR0_0 hbb hk0
    refine (small_any A0 _ c0 _ _ HS.out).mono ?_
    rintro e w3 ⟨rfl, hb⟩
    have hbc := hb
    have HB4 := Lib.hid (below_then HB2.out hbc (Nat.le_refl _))
    have HR0_4 := Lib.hid ((HR0_2.out.below hbc).lt)
    have K0_4 := Lib.hid (K0_2.out.after hbc)
    clear hbc HB2 HR0_2 K0_2 hb
    go_wp2_with fail
    refine (alive_any _ (HD.out.below HB4.out) (HM.out.below HB4.out)).mono ?_
    rintro e w5 ⟨rfl, hb⟩
    have hbc := hb
    have HB6 := Lib.hid (below_then HB4.out hbc (Nat.le_refl _))
    have HR0_6 := Lib.hid ((HR0_4.out.below hbc).lt)
    have K0_6 := Lib.hid (K0_4.out.after hbc)
    clear hbc HB4 HR0_4 K0_4 hb
    go_wp2
    go_ret
    exact ⟨rfl, HB6.out⟩
  | true =>
    have hs0 : l0.length ≤ 12 := by simp at hS; omega
    clear hS
    obtain ⟨rk, hrk, hhk⟩ := ex_can A0 c0 l0 w HR0_0.out (by omega)
    have hcb := cardS_bd l0
    obtain ⟨N, hN⟩ : ∃ N, cardS l0 = N := ⟨_, rfl⟩
    have HCN : Hid (∀ r, Cnn r → (∀ x, hasP r x ↔ hasP l0 x) → cntR r = N) := fun r h1 h2 => by rw [← hN]; exact count_card h1 h2
    have HEND : Hid (0 ≤ N → ∀ r, Cnn r → (∀ x, hasP r x ↔ hasP l0 x) → nthR r N = (0, false)) := fun h r h1 h2 => (nth_card h1 h2 h).2 (by rw [hN]; exact Int.le_refl _)
    rw [hN] at hcb
    obtain ⟨hc1, hc2⟩ := hcb
    by_cases hs0 : 0 ≤ s1
    · by_cases hz : 0 < N
      · have hi0 : 0 ≤ s1 % N := Int.emod_nonneg _ (by omega)
        have hi1 : s1 % N < N := Int.emod_lt_of_pos _ (by omega)
        obtain ⟨cd, hcd, hcm, hcp⟩ := (nth_card hrk hhk hi0).1 (by rw [hN]; exact hi1)
        have hcl : (cd : Int) ≤ 1114111 := hcm.1.2
        have hcg : 0 ≤ (cd : Int) := by omega
        have HNV : Hid (0 ≤ s1 % N → ∀ r, Cnn r → (∀ x, hasP r x ↔ hasP l0 x) → nthR r (s1 % N) = ((cd : Int), true)) := fun _ r h1 h2 => by rw [nth_same h1 h2 hrk hhk]; exact hcd
        have HHS : Hid (decide (hasP l0 (cd : Int)) = true) := decide_eq_true hcm
        have HCP := Lib.hid hcp
        clear hrk hhk hN hcd hcm hcp
        go_enter Tryd.func4, Tryd.ntmps4
        go_wp2_with fail
        obtain ⟨n7, hv, hbb, hk0⟩ : ∃ v, v = (w.alloc (.cells #[.slice A0 l0.length c0] 24)) ∧ Below w.heap.size w v ∧ Blk v (w.heap.size) 24 #[.slice A0 l0.length c0] :=
          ⟨_, rfl, (Below.refl _ _).alloc (Nat.le_refl _) _, Blk.at_new (by simp; try omega)⟩
        rw [← hv]
        clear hv
        obtain ⟨b0, ha⟩ : ∃ a, a = w.heap.size := ⟨_, rfl⟩
        rw [← ha] at hk0 ⊢
        clear ha
        have hbc := hbb
        have HB8 := Lib.hid (below_then HB0.out hbc (Nat.le_refl _))
        have HR0_8 := Lib.hid ((HR0_0.out.below hbc).lt)
        have K0_8 := Lib.hid (hk0)
        clear hbc HB0 HR0_0 hbb hk0
        refine (small_any A0 _ c0 _ _ HS.out).mono ?_
        rintro e w9 ⟨rfl, hb⟩
        have hbc := hb
        have HB10 := Lib.hid (below_then HB8.out hbc (Nat.le_refl _))
        have HR0_10 := Lib.hid ((HR0_8.out.below hbc).lt)
        have K0_10 := Lib.hid (K0_8.out.after hbc)
        clear hbc HB8 HR0_8 K0_8 hb
        have eK0_ := K0_10.out.cell 0
        have lK0_ := K0_10.out.lt
        simp at eK0_
        go_wp2_with fail
        clear eK0_ lK0_
        refine (count_any A0 c0 l0 _ HR0_10.out (by omega) N HCN.out).mono ?_
        rintro e w11 ⟨rfl, hb⟩
        have hbc := hb
        have HB12 := Lib.hid (below_then HB10.out hbc (Nat.le_refl _))
        have HR0_12 := Lib.hid ((HR0_10.out.below hbc).lt)
        have K0_12 := Lib.hid (K0_10.out.after hbc)
        clear hbc HB10 HR0_10 K0_10 hb
        have eK0_ := K0_12.out.cell 0
        have lK0_ := K0_12.out.lt
        simp at eK0_
        go_wp2_with fail
        clear eK0_ lK0_
        obtain ⟨i, hi⟩ : ∃ i, s1 % N = i := ⟨_, rfl⟩
        rw [hi] at hi0 hi1 HNV HCP
        first | rw [hi] | rw [show s1.tmod N = i by rw [Int.tmod_eq_emod_of_nonneg hs0]; exact hi]
        clear hi
        refine (nth_any A0 c0 l0 i ⟨by omega, by omega⟩ _ HR0_12.out (by omega) (cd : Int) true (fun h => by omega) HNV.out).mono ?_
        rintro e w13 ⟨rfl, hb⟩
        have hbc := hb
        have HB14 := Lib.hid (below_then HB12.out hbc (Nat.le_refl _))
        have HR0_14 := Lib.hid ((HR0_12.out.below hbc).lt)
        have K0_14 := Lib.hid (K0_12.out.after hbc)
        clear hbc HB12 HR0_12 K0_12 hb
        have eK0_ := K0_14.out.cell 0
        have lK0_ := K0_14.out.lt
        simp at eK0_
        go_wp2_with fail
        clear eK0_ lK0_
        refine (nth_any A0 c0 l0 N ⟨by omega, by omega⟩ _ HR0_14.out (by omega) 0 false (fun _ => ⟨rfl, rfl⟩) HEND.out).mono ?_
        rintro e w15 ⟨rfl, hb⟩
        have hbc := hb
        have HB16 := Lib.hid (below_then HB14.out hbc (Nat.le_refl _))
        have HR0_16 := Lib.hid ((HR0_14.out.below hbc).lt)
        have K0_16 := Lib.hid (K0_14.out.after hbc)
        clear hbc HB14 HR0_14 K0_14 hb
        have k1 : IntKind.i64.wrap ((cd : Int) - 1) = (cd : Int) - 1 := IntWalk.i64_in _ (by omega)
        go_wp2_with fail
        refine wp_region_tree (fun w' => Below w.heap.size w w' ∧ Blk w' b0 24 #[.slice A0 l0.length c0]) (.float 0 (.float 1 (.float 2 (.float 3 (.one 4 (.one 5 (.one 6 (.one 7 (.float 8 .done))))))))) (by kernel_rfl) (by kernel_rfl) (fun _ _ d _ _ h => by cases d <;> exact h) ⟨HB16.out.drew, K0_16.out.drew⟩ ?_
        obtain ⟨d17, hdr, hbd⟩ : ∃ d, d = w15.drew ∧ Below w15.heap.size w15 d := ⟨_, rfl, (Below.refl _ _).drew⟩
        rw [← hdr]
        clear hdr
        have hbc := hbd
        have HB18 := Lib.hid (below_then HB16.out hbc (Nat.le_refl _))
        have HR0_18 := Lib.hid ((HR0_16.out.below hbc).lt)
        have K0_18 := Lib.hid (K0_16.out.after hbc)
        clear hbc HB16 HR0_16 K0_16 hbd
        repeat (first
          | (refine wpTr_fskip (by simp only [List.getElem?_toArray, List.getElem?_cons_zero, List.getElem?_cons_succ]; rfl) (by rfl) ?_
             simp only [Act.put, List.setIfInBounds_toArray, List.set_cons_zero, List.set_cons_succ])
          | (refine wpTr_float (v := ?_) (by simp only [List.getElem?_toArray, List.getElem?_cons_zero, List.getElem?_cons_succ]; rfl) (by rfl) (fun w' hS => ?_) ?_
             rotate_left
             (obtain ⟨hSb, hSb0⟩ := hS; have eSb0 := hSb0.cell 0; have lSb0 := hSb0.lt; simp at eSb0; go_simp; first | done | rfl)
             simp only [Act.put, List.setIfInBounds_toArray, List.set_cons_zero, List.set_cons_succ]))
        refine wpTr_one ?_
        refine stepTr_K (by simp only [List.getElem?_toArray, List.getElem?_cons_zero, List.getElem?_cons_succ]; rfl) (by rfl) (fun K hK => ?_)
        go_simp
        obtain ⟨n19, hv, hbb, hrw⟩ : ∃ v, v = d17.alloc (.cells #[.int .i64 0, .int .i64 ((cd : Int) - 1)] 37) ∧ Below d17.heap.size d17 v ∧ Row v v.heap.size (some ⟨d17.heap.size, 0, none⟩) (rgs [(0, (cd : Int) - 1)]) := ⟨_, rfl, (Below.refl _ _).alloc (Nat.le_refl _) _, row_rg2 _ _ _ _ rfl⟩
        rw [← hv]
        clear hv
        have hbc := hbb
        have HB20 := Lib.hid (below_then HB18.out hbc (Nat.le_refl _))
        have HR0_20 := Lib.hid ((HR0_18.out.below hbc).lt)
        have K0_20 := Lib.hid (K0_18.out.after hbc)
        have RN_20 := Lib.hid (hrw)
        clear hbc HB18 HR0_18 K0_18 hbb hrw
        refine hK.out _ _ ⟨HB20.out, K0_20.out⟩ ?_
        clear hK K
        try simp only [Act.put, List.setIfInBounds_toArray, List.set_cons_zero, List.set_cons_succ]
        refine wpTr_one ?_
        refine stepTr_K (by simp only [List.getElem?_toArray, List.getElem?_cons_zero, List.getElem?_cons_succ]; rfl) (by rfl) (fun K hK => ?_)
        go_simp
        refine (make_any (some ⟨d17.heap.size, 0, none⟩) 1 [(0, (cd : Int) - 1)] _ RN_20.out (by simp)).mono ?_
        rintro e w21 ⟨Am, cm, rm, rfl, hc, hh, hr, hb⟩
        have hbc := hb
        have HB22 := Lib.hid (below_then HB20.out hbc (Nat.le_refl _))
        have HR0_22 := Lib.hid ((HR0_20.out.below hbc).lt)
        have K0_22 := Lib.hid (K0_20.out.after hbc)
        have RN_22 := Lib.hid ((RN_20.out.below hbc).lt)
        have Rm_22 := Lib.hid (hr)
        clear hbc HB20 HR0_20 K0_20 RN_20 hb hr
        have Cm := Lib.hid hc
        have Mm := Lib.hid hh
        clear hc hh
        refine hK.out _ _ ⟨HB22.out, K0_22.out⟩ ?_
        clear hK K
        try simp only [Act.put, List.setIfInBounds_toArray, List.set_cons_zero, List.set_cons_succ]
        refine wpTr_one ?_
        refine stepTr_K (by simp only [List.getElem?_toArray, List.getElem?_cons_zero, List.getElem?_cons_succ]; rfl) (by rfl) (fun K hK => ?_)
        go_simp
        refine (and_any A0 Am c0 cm l0 rm _ HR0_22.out Rm_22.out (by omega) (by have := can_len Cm.out; omega)).mono ?_
        rintro e w23 ⟨Aa, ca, ra, rfl, hc, hh, hr, hb⟩
        have hbc := hb
        have HB24 := Lib.hid (below_then HB22.out hbc (Nat.le_refl _))
        have HR0_24 := Lib.hid ((HR0_22.out.below hbc).lt)
        have K0_24 := Lib.hid (K0_22.out.after hbc)
        have RN_24 := Lib.hid ((RN_22.out.below hbc).lt)
        have Rm_24 := Lib.hid ((Rm_22.out.below hbc).lt)
        have Ra_24 := Lib.hid (hr)
        clear hbc HB22 HR0_22 K0_22 RN_22 Rm_22 hb hr
        have Ca := Lib.hid hc
        have Ma := Lib.hid hh
        clear hc hh
        refine hK.out _ _ ⟨HB24.out, K0_24.out⟩ ?_
        clear hK K
        try simp only [Act.put, List.setIfInBounds_toArray, List.set_cons_zero, List.set_cons_succ]
        refine wpTr_one ?_
        refine stepTr_K (by simp only [List.getElem?_toArray, List.getElem?_cons_zero, List.getElem?_cons_succ]; rfl) (by rfl) (fun K hK => ?_)
        go_simp
        have HBL : Hid (cardS ra = i) := by
          show _ = _
          rw [card_below (l := l0) (c := cd) (by omega) (fun x => ?_)]
          · exact HCP.out
          · simp only [Ma.out, Mm.out]
            constructor
            · rintro ⟨h1, _, h2⟩
              simp [memR] at h2
              exact ⟨h1, by omega⟩
            · rintro ⟨h1, h2⟩
              exact ⟨h1, h1.1, (0, (cd : Int) - 1), by simp, h1.1.1, by simp only; omega⟩
        refine (count_any Aa ca ra _ Ra_24.out (by have := can_len Ca.out; omega) i (fun r h1 h2 => (count_card h1 h2).trans HBL.out)).mono ?_
        rintro e w25 ⟨rfl, hb⟩
        have hbc := hb
        have HB26 := Lib.hid (below_then HB24.out hbc (Nat.le_refl _))
        have HR0_26 := Lib.hid ((HR0_24.out.below hbc).lt)
        have K0_26 := Lib.hid (K0_24.out.after hbc)
        have RN_26 := Lib.hid ((RN_24.out.below hbc).lt)
        have Rm_26 := Lib.hid ((Rm_24.out.below hbc).lt)
        have Ra_26 := Lib.hid ((Ra_24.out.below hbc).lt)
        clear hbc HB24 HR0_24 K0_24 RN_24 Rm_24 Ra_24 hb
        refine hK.out _ _ ⟨HB26.out, K0_26.out⟩ ?_
        clear hK K
        try simp only [Act.put, List.setIfInBounds_toArray, List.set_cons_zero, List.set_cons_succ]
        repeat (first
          | (refine wpTr_fskip (by simp only [List.getElem?_toArray, List.getElem?_cons_zero, List.getElem?_cons_succ]; rfl) (by rfl) ?_
             simp only [Act.put, List.setIfInBounds_toArray, List.set_cons_zero, List.set_cons_succ])
          | (refine wpTr_float (v := ?_) (by simp only [List.getElem?_toArray, List.getElem?_cons_zero, List.getElem?_cons_succ]; rfl) (by rfl) (fun w' hS => ?_) ?_
             rotate_left
             (obtain ⟨hSb, hSb0⟩ := hS; have eSb0 := hSb0.cell 0; have lSb0 := hSb0.lt; simp at eSb0; go_simp; first | done | rfl)
             simp only [Act.put, List.setIfInBounds_toArray, List.set_cons_zero, List.set_cons_succ]))
        refine wpTr_done ?_
        have eK0_ := K0_26.out.cell 0
        have lK0_ := K0_26.out.lt
        simp at eK0_
        go_wp2_with fail
        clear eK0_ lK0_
        refine (has_any A0 c0 l0 (cd : Int) _ HR0_26.out (by simp only [maxLen]; omega) true HHS.out).mono ?_
        rintro e w27 ⟨rfl, hb⟩
        have hbc := hb
        have HB28 := Lib.hid (below_then HB26.out hbc (Nat.le_refl _))
        have HR0_28 := Lib.hid ((HR0_26.out.below hbc).lt)
        have K0_28 := Lib.hid (K0_26.out.after hbc)
        have RN_28 := Lib.hid ((RN_26.out.below hbc).lt)
        have Rm_28 := Lib.hid ((Rm_26.out.below hbc).lt)
        have Ra_28 := Lib.hid ((Ra_26.out.below hbc).lt)
        clear hbc HB26 HR0_26 K0_26 RN_26 Rm_26 Ra_26 hb
        go_wp2_with fail
        refine (alive_any _ (HD.out.below HB28.out) (HM.out.below HB28.out)).mono ?_
        rintro e w29 ⟨rfl, hb⟩
        have hbc := hb
        have HB30 := Lib.hid (below_then HB28.out hbc (Nat.le_refl _))
        have HR0_30 := Lib.hid ((HR0_28.out.below hbc).lt)
        have K0_30 := Lib.hid (K0_28.out.after hbc)
        have RN_30 := Lib.hid ((RN_28.out.below hbc).lt)
        have Rm_30 := Lib.hid ((Rm_28.out.below hbc).lt)
        have Ra_30 := Lib.hid ((Ra_28.out.below hbc).lt)
        clear hbc HB28 HR0_28 K0_28 RN_28 Rm_28 Ra_28 hb
        go_wp2
        go_ret
        exact ⟨rfl, HB30.out⟩
      · have HNV : Hid (0 ≤ s1 → ∀ r, Cnn r → (∀ x, hasP r x ↔ hasP l0 x) → nthR r s1 = (0, false)) := fun h r h1 h2 => (nth_card h1 h2 h).2 (by rw [hN]; omega)
        have hz2 : decide (0 < N) = false := by simp; omega
        have hz3 : ¬ s1 < N := by omega
        clear hrk hhk hN
        go_enter Tryd.func4, Tryd.ntmps4
        go_wp2_with fail
        obtain ⟨n31, hv, hbb, hk0⟩ : ∃ v, v = (w.alloc (.cells #[.slice A0 l0.length c0] 24)) ∧ Below w.heap.size w v ∧ Blk v (w.heap.size) 24 #[.slice A0 l0.length c0] :=
          ⟨_, rfl, (Below.refl _ _).alloc (Nat.le_refl _) _, Blk.at_new (by simp; try omega)⟩
        rw [← hv]
        clear hv
        obtain ⟨b0, ha⟩ : ∃ a, a = w.heap.size := ⟨_, rfl⟩
        rw [← ha] at hk0 ⊢
        clear ha
        have hbc := hbb
        have HB32 := Lib.hid (below_then HB0.out hbc (Nat.le_refl _))
        have HR0_32 := Lib.hid ((HR0_0.out.below hbc).lt)
        have K0_32 := Lib.hid (hk0)
        clear hbc HB0 HR0_0 hbb hk0
        refine (small_any A0 _ c0 _ _ HS.out).mono ?_
        rintro e w33 ⟨rfl, hb⟩
        have hbc := hb
        have HB34 := Lib.hid (below_then HB32.out hbc (Nat.le_refl _))
        have HR0_34 := Lib.hid ((HR0_32.out.below hbc).lt)
        have K0_34 := Lib.hid (K0_32.out.after hbc)
        clear hbc HB32 HR0_32 K0_32 hb
        have eK0_ := K0_34.out.cell 0
        have lK0_ := K0_34.out.lt
        simp at eK0_
        go_wp2_with fail
        clear eK0_ lK0_
        refine (count_any A0 c0 l0 _ HR0_34.out (by omega) N HCN.out).mono ?_
        rintro e w35 ⟨rfl, hb⟩
        have hbc := hb
        have HB36 := Lib.hid (below_then HB34.out hbc (Nat.le_refl _))
        have HR0_36 := Lib.hid ((HR0_34.out.below hbc).lt)
        have K0_36 := Lib.hid (K0_34.out.after hbc)
        clear hbc HB34 HR0_34 K0_34 hb
        have eK0_ := K0_36.out.cell 0
        have lK0_ := K0_36.out.lt
        simp at eK0_
        go_wp2_with fail
        clear eK0_ lK0_
        refine (nth_any A0 c0 l0 s1 _hs1 _ HR0_36.out (by omega) 0 false (fun _ => ⟨rfl, rfl⟩) HNV.out).mono ?_
        rintro e w37 ⟨rfl, hb⟩
        have hbc := hb
        have HB38 := Lib.hid (below_then HB36.out hbc (Nat.le_refl _))
        have HR0_38 := Lib.hid ((HR0_36.out.below hbc).lt)
        have K0_38 := Lib.hid (K0_36.out.after hbc)
        clear hbc HB36 HR0_36 K0_36 hb
        have eK0_ := K0_38.out.cell 0
        have lK0_ := K0_38.out.lt
        simp at eK0_
        go_wp2_with fail
        clear eK0_ lK0_
        refine (nth_any A0 c0 l0 N ⟨by omega, by omega⟩ _ HR0_38.out (by omega) 0 false (fun _ => ⟨rfl, rfl⟩) HEND.out).mono ?_
        rintro e w39 ⟨rfl, hb⟩
        have hbc := hb
        have HB40 := Lib.hid (below_then HB38.out hbc (Nat.le_refl _))
        have HR0_40 := Lib.hid ((HR0_38.out.below hbc).lt)
        have K0_40 := Lib.hid (K0_38.out.after hbc)
        clear hbc HB38 HR0_38 K0_38 hb
        go_wp2_with fail
        refine (alive_any _ (HD.out.below HB40.out) (HM.out.below HB40.out)).mono ?_
        rintro e w41 ⟨rfl, hb⟩
        have hbc := hb
        have HB42 := Lib.hid (below_then HB40.out hbc (Nat.le_refl _))
        have HR0_42 := Lib.hid ((HR0_40.out.below hbc).lt)
        have K0_42 := Lib.hid (K0_40.out.after hbc)
        clear hbc HB40 HR0_40 K0_40 hb
        go_wp2
        go_ret
        exact ⟨rfl, HB42.out⟩
    · have HNV : Hid (0 ≤ s1 → ∀ r, Cnn r → (∀ x, hasP r x ↔ hasP l0 x) → nthR r s1 = (0, false)) := fun h => by omega
      have hsn : decide (0 ≤ s1) = false := by simp; omega
      clear hrk hhk hN
      by_cases hz : 0 < N
      · go_enter Tryd.func4, Tryd.ntmps4
        go_wp2_with fail
        obtain ⟨n43, hv, hbb, hk0⟩ : ∃ v, v = (w.alloc (.cells #[.slice A0 l0.length c0] 24)) ∧ Below w.heap.size w v ∧ Blk v (w.heap.size) 24 #[.slice A0 l0.length c0] :=
          ⟨_, rfl, (Below.refl _ _).alloc (Nat.le_refl _) _, Blk.at_new (by simp; try omega)⟩
        rw [← hv]
        clear hv
        obtain ⟨b0, ha⟩ : ∃ a, a = w.heap.size := ⟨_, rfl⟩
        rw [← ha] at hk0 ⊢
        clear ha
        have hbc := hbb
        have HB44 := Lib.hid (below_then HB0.out hbc (Nat.le_refl _))
        have HR0_44 := Lib.hid ((HR0_0.out.below hbc).lt)
        have K0_44 := Lib.hid (hk0)
        clear hbc HB0 HR0_0 hbb hk0
        refine (small_any A0 _ c0 _ _ HS.out).mono ?_
        rintro e w45 ⟨rfl, hb⟩
        have hbc := hb
        have HB46 := Lib.hid (below_then HB44.out hbc (Nat.le_refl _))
        have HR0_46 := Lib.hid ((HR0_44.out.below hbc).lt)
        have K0_46 := Lib.hid (K0_44.out.after hbc)
        clear hbc HB44 HR0_44 K0_44 hb
        have eK0_ := K0_46.out.cell 0
        have lK0_ := K0_46.out.lt
        simp at eK0_
        go_wp2_with fail
        clear eK0_ lK0_
        refine (count_any A0 c0 l0 _ HR0_46.out (by omega) N HCN.out).mono ?_
        rintro e w47 ⟨rfl, hb⟩
        have hbc := hb
        have HB48 := Lib.hid (below_then HB46.out hbc (Nat.le_refl _))
        have HR0_48 := Lib.hid ((HR0_46.out.below hbc).lt)
        have K0_48 := Lib.hid (K0_46.out.after hbc)
        clear hbc HB46 HR0_46 K0_46 hb
        have eK0_ := K0_48.out.cell 0
        have lK0_ := K0_48.out.lt
        simp at eK0_
        go_wp2_with fail
        clear eK0_ lK0_
        refine (nth_any A0 c0 l0 s1 _hs1 _ HR0_48.out (by omega) 0 false (fun _ => ⟨rfl, rfl⟩) HNV.out).mono ?_
        rintro e w49 ⟨rfl, hb⟩
        have hbc := hb
        have HB50 := Lib.hid (below_then HB48.out hbc (Nat.le_refl _))
        have HR0_50 := Lib.hid ((HR0_48.out.below hbc).lt)
        have K0_50 := Lib.hid (K0_48.out.after hbc)
        clear hbc HB48 HR0_48 K0_48 hb
        have eK0_ := K0_50.out.cell 0
        have lK0_ := K0_50.out.lt
        simp at eK0_
        go_wp2_with fail
        clear eK0_ lK0_
        refine (nth_any A0 c0 l0 N ⟨by omega, by omega⟩ _ HR0_50.out (by omega) 0 false (fun _ => ⟨rfl, rfl⟩) HEND.out).mono ?_
        rintro e w51 ⟨rfl, hb⟩
        have hbc := hb
        have HB52 := Lib.hid (below_then HB50.out hbc (Nat.le_refl _))
        have HR0_52 := Lib.hid ((HR0_50.out.below hbc).lt)
        have K0_52 := Lib.hid (K0_50.out.after hbc)
        clear hbc HB50 HR0_50 K0_50 hb
        go_wp2_with fail
        refine (alive_any _ (HD.out.below HB52.out) (HM.out.below HB52.out)).mono ?_
        rintro e w53 ⟨rfl, hb⟩
        have hbc := hb
        have HB54 := Lib.hid (below_then HB52.out hbc (Nat.le_refl _))
        have HR0_54 := Lib.hid ((HR0_52.out.below hbc).lt)
        have K0_54 := Lib.hid (K0_52.out.after hbc)
        clear hbc HB52 HR0_52 K0_52 hb
        go_wp2
        go_ret
        exact ⟨rfl, HB54.out⟩
      · have hz2 : decide (0 < N) = false := by simp; omega
        go_enter Tryd.func4, Tryd.ntmps4
        go_wp2_with fail
        obtain ⟨n55, hv, hbb, hk0⟩ : ∃ v, v = (w.alloc (.cells #[.slice A0 l0.length c0] 24)) ∧ Below w.heap.size w v ∧ Blk v (w.heap.size) 24 #[.slice A0 l0.length c0] :=
          ⟨_, rfl, (Below.refl _ _).alloc (Nat.le_refl _) _, Blk.at_new (by simp; try omega)⟩
        rw [← hv]
        clear hv
        obtain ⟨b0, ha⟩ : ∃ a, a = w.heap.size := ⟨_, rfl⟩
        rw [← ha] at hk0 ⊢
        clear ha
        have hbc := hbb
        have HB56 := Lib.hid (below_then HB0.out hbc (Nat.le_refl _))
        have HR0_56 := Lib.hid ((HR0_0.out.below hbc).lt)
        have K0_56 := Lib.hid (hk0)
        clear hbc HB0 HR0_0 hbb hk0
        refine (small_any A0 _ c0 _ _ HS.out).mono ?_
        rintro e w57 ⟨rfl, hb⟩
        have hbc := hb
        have HB58 := Lib.hid (below_then HB56.out hbc (Nat.le_refl _))
        have HR0_58 := Lib.hid ((HR0_56.out.below hbc).lt)
        have K0_58 := Lib.hid (K0_56.out.after hbc)
        clear hbc HB56 HR0_56 K0_56 hb
        have eK0_ := K0_58.out.cell 0
        have lK0_ := K0_58.out.lt
        simp at eK0_
        go_wp2_with fail
        clear eK0_ lK0_
        refine (count_any A0 c0 l0 _ HR0_58.out (by omega) N HCN.out).mono ?_
        rintro e w59 ⟨rfl, hb⟩
        have hbc := hb
        have HB60 := Lib.hid (below_then HB58.out hbc (Nat.le_refl _))
        have HR0_60 := Lib.hid ((HR0_58.out.below hbc).lt)
        have K0_60 := Lib.hid (K0_58.out.after hbc)
        clear hbc HB58 HR0_58 K0_58 hb
        have eK0_ := K0_60.out.cell 0
        have lK0_ := K0_60.out.lt
        simp at eK0_
        go_wp2_with fail
        clear eK0_ lK0_
        refine (nth_any A0 c0 l0 s1 _hs1 _ HR0_60.out (by omega) 0 false (fun _ => ⟨rfl, rfl⟩) HNV.out).mono ?_
        rintro e w61 ⟨rfl, hb⟩
        have hbc := hb
        have HB62 := Lib.hid (below_then HB60.out hbc (Nat.le_refl _))
        have HR0_62 := Lib.hid ((HR0_60.out.below hbc).lt)
        have K0_62 := Lib.hid (K0_60.out.after hbc)
        clear hbc HB60 HR0_60 K0_60 hb
        have eK0_ := K0_62.out.cell 0
        have lK0_ := K0_62.out.lt
        simp at eK0_
        go_wp2_with fail
        clear eK0_ lK0_
        refine (nth_any A0 c0 l0 N ⟨by omega, by omega⟩ _ HR0_62.out (by omega) 0 false (fun _ => ⟨rfl, rfl⟩) HEND.out).mono ?_
        rintro e w63 ⟨rfl, hb⟩
        have hbc := hb
        have HB64 := Lib.hid (below_then HB62.out hbc (Nat.le_refl _))
        have HR0_64 := Lib.hid ((HR0_62.out.below hbc).lt)
        have K0_64 := Lib.hid (K0_62.out.after hbc)
        clear hbc HB62 HR0_62 K0_62 hb
        go_wp2_with fail
        refine (alive_any _ (HD.out.below HB64.out) (HM.out.below HB64.out)).mono ?_
        rintro e w65 ⟨rfl, hb⟩
        have hbc := hb
        have HB66 := Lib.hid (below_then HB64.out hbc (Nat.le_refl _))
        have HR0_66 := Lib.hid ((HR0_64.out.below hbc).lt)
        have K0_66 := Lib.hid (K0_64.out.after hbc)
        clear hbc HB64 HR0_64 K0_64 hb
        go_wp2
        go_ret
        exact ⟨rfl, HB66.out⟩
end Go.Proofs.YtogfhaeohcpkjaaDoor.LEnumerates
