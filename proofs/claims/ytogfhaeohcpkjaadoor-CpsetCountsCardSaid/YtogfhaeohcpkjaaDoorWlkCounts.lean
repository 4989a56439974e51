/-
  CpsetCounts: the walk of the law: it returns true, nothing older changes.
-/
import Derived.Test.YtogfhaeohcpkjaaDoorCsL
import Derived.Test.YtogfhaeohcpkjaaDoorTree
import Derived.Deep.QuietTactic
import Derived.BigQuiet
import Derived.IntWalk
import Derived.Outline
import Derived.Test.YtogfhaeohcpkjaaDoorCr4
import Derived.Test.YtogfhaeohcpkjaaDoorCt3
namespace Go.Proofs.YtogfhaeohcpkjaaDoor.LCounts
open Go.ChangeShapes Go.WideShapes Go.ChangeAt Go.RowKit Go.UtYtogfhaeohcpkjaaDoor Go.Joins
theorem ex_can (A : Option Addr) (c : Nat) (l : List Rg) (w : World) (hR : Row w w.heap.size A (rgs l)) (hm : l.length ≤ 1099511627776) : ∃ r, Cnn r ∧ ∀ x, hasP r x ↔ hasP l x := by
  obtain ⟨e, w', fr, ⟨A2, c2, r, _, h1, h2, _⟩, _⟩ := make_any A c l w hR hm []
  exact ⟨r, h1, h2⟩
set_option maxRecDepth 100000 in
set_option maxHeartbeats 4000000 in
theorem walk (w : World) (hd : Digs w) (hm : MaxL w) (A0 : Option Addr) (c0 : Nat) (l0 : List Rg) (_lc0 : l0.length ≤ c0) (_lm0 : c0 ≤ maxLen) (hR0 : Row w w.heap.size A0 (rgs l0)) (s1 : Int) (_hs1 : -9223372036854775808 ≤ s1 ∧ s1 ≤ 9223372036854775807) :
    Calls Tryd.prog 12 #[.agg #[.slice A0 l0.length c0], .int .i64 s1] w fun e w' => e = .returned (.bool true) ∧ Below w.heap.size w w' := by
  have HD := Lib.hid hd
  have HM := Lib.hid hm
  clear hd hm
  have HB0 := Lib.hid (Below.refl w.heap.size w)
  have HR0_0 := Lib.hid hR0
  clear hR0
  obtain ⟨bS, hS⟩ : ∃ b, decide ((l0.length : Int) ≤ 12) = b := ⟨_, rfl⟩
  have HS := Lib.hid hS
  cases bS with
  | false =>
    clear hS
    go_enter Tryd.func12, Tryd.ntmps12
    go_wp2_with fail
    obtain ⟨n1, hv, hbb, hk0⟩ : ∃ v, v = (w.alloc (.cells #[.slice A0 l0.length c0] 24)) ∧ Below w.heap.size w v ∧ Blk v (w.heap.size) 24 #[.slice A0 l0.length c0] :=
      ⟨_, rfl, (Below.refl _ _).alloc (Nat.le_refl _) _, Blk.at_new (by simp; try omega)⟩
    rw [← hv]
    clear hv
    obtain ⟨b0, ha⟩ : ∃ a, a = w.heap.size := ⟨_, rfl⟩
    rw [← ha] at hk0 ⊢
    clear ha
    have hbc := hbb
    have HB2 := Lib.hid (below_then HB0.out hbc (Nat.le_refl _))
    have HR0_2 := Lib.hid ((HR0_0.out.below hbc).lt)
    have K0_2 := Lib.hid (hk0)
    clear hbc HB0 HR0_0 hbb hk0
    refine (small_any A0 _ c0 _ _ HS.out).mono ?_
    rintro e w3 ⟨rfl, hb⟩
    have hbc := hb
    have HB4 := Lib.hid (below_then HB2.out hbc (Nat.le_refl _))
    have HR0_4 := Lib.hid ((HR0_2.out.below hbc).lt)
    have K0_4 := Lib.hid (K0_2.out.after hbc)
    clear hbc HB2 HR0_2 K0_2 hb
    go_wp2_with fail
    refine (alive_any _ (HD.out.below HB4.out) (HM.out.below HB4.out)).mono ?_
    rintro e w5 ⟨rfl, hb⟩
    have hbc := hb
    have HB6 := Lib.hid (below_then HB4.out hbc (Nat.le_refl _))
    have HR0_6 := Lib.hid ((HR0_4.out.below hbc).lt)
    have K0_6 := Lib.hid (K0_4.out.after hbc)
    clear hbc HB4 HR0_4 K0_4 hb
    go_wp2
    go_ret
    exact ⟨rfl, HB6.out⟩
  | true =>
    have hs0 : l0.length ≤ 12 := by simp at hS; omega
    clear hS
    obtain ⟨rk, hrk, hhk⟩ := ex_can A0 c0 l0 w HR0_0.out (by omega)
    obtain ⟨v, f, hneg, hv⟩ : ∃ (v : Int) (f : Bool), (s1 < 0 → v = 0 ∧ f = false) ∧ (0 ≤ s1 → ∀ r, Cnn r → (∀ x, hasP r x ↔ hasP l0 x) → nthR r s1 = (v, f)) := by
      by_cases h : s1 < 0
      · exact ⟨0, false, fun _ => ⟨rfl, rfl⟩, fun h' => by omega⟩
      · exact ⟨(nthR rk s1).1, (nthR rk s1).2, fun h' => absurd h' h, fun _ r h1 h2 => by rw [nth_same h1 h2 hrk hhk]⟩
    have HNG := Lib.hid hneg
    have HNV := Lib.hid hv
    clear hneg hv hrk hhk
    go_enter Tryd.func12, Tryd.ntmps12
    go_wp2_with fail
    obtain ⟨n7, hv, hbb, hk0⟩ : ∃ v, v = (w.alloc (.cells #[.slice A0 l0.length c0] 24)) ∧ Below w.heap.size w v ∧ Blk v (w.heap.size) 24 #[.slice A0 l0.length c0] :=
      ⟨_, rfl, (Below.refl _ _).alloc (Nat.le_refl _) _, Blk.at_new (by simp; try omega)⟩
    rw [← hv]
    clear hv
    obtain ⟨b0, ha⟩ : ∃ a, a = w.heap.size := ⟨_, rfl⟩
    rw [← ha] at hk0 ⊢
    clear ha
    have hbc := hbb
    have HB8 := Lib.hid (below_then HB0.out hbc (Nat.le_refl _))
    have HR0_8 := Lib.hid ((HR0_0.out.below hbc).lt)
    have K0_8 := Lib.hid (hk0)
    clear hbc HB0 HR0_0 hbb hk0
    refine (small_any A0 _ c0 _ _ HS.out).mono ?_
    rintro e w9 ⟨rfl, hb⟩
    have hbc := hb
    have HB10 := Lib.hid (below_then HB8.out hbc (Nat.le_refl _))
    have HR0_10 := Lib.hid ((HR0_8.out.below hbc).lt)
    have K0_10 := Lib.hid (K0_8.out.after hbc)
    clear hbc HB8 HR0_8 K0_8 hb
    have eK0_ := K0_10.out.cell 0
    have lK0_ := K0_10.out.lt
    simp at eK0_
    go_wp2_with fail
    clear eK0_ lK0_
    refine (nth_any A0 c0 l0 s1 _hs1 _ HR0_10.out (by omega) v f HNG.out HNV.out).mono ?_
    rintro e w11 ⟨rfl, hb⟩
    have hbc := hb
    have HB12 := Lib.hid (below_then HB10.out hbc (Nat.le_refl _))
    have HR0_12 := Lib.hid ((HR0_10.out.below hbc).lt)
    have K0_12 := Lib.hid (K0_10.out.after hbc)
    clear hbc HB10 HR0_10 K0_10 hb
    have eK0_ := K0_12.out.cell 0
    have lK0_ := K0_12.out.lt
    simp at eK0_
    go_wp2_with fail
    clear eK0_ lK0_
    refine (rNth_any A0 c0 l0 s1 _hs1 _ HR0_12.out (by omega) v f HNG.out HNV.out).mono ?_
    rintro e w13 ⟨rfl, hb⟩
    have hbc := hb
    have HB14 := Lib.hid (below_then HB12.out hbc (Nat.le_refl _))
    have HR0_14 := Lib.hid ((HR0_12.out.below hbc).lt)
    have K0_14 := Lib.hid (K0_12.out.after hbc)
    clear hbc HB12 HR0_12 K0_12 hb
    go_wp2_with fail
    refine wp_region_tree (fun w' => Below w.heap.size w w' ∧ Blk w' b0 24 #[.slice A0 l0.length c0]) (.float 0 (.float 1 (.float 2 (.float 3 (.float 4 (.float 5 (.float 6 (.float 7 (.float 8 (.float 9 (.float 11 (.one 10 (.one 12 (.float 13 (.float 14 (.float 15 (.one 16 (.float 17 (.float 18 .done))))))))))))))))))) (by kernel_rfl) (by kernel_rfl) (fun _ _ d _ _ h => by cases d <;> exact h) ⟨HB14.out.drew, K0_14.out.drew⟩ ?_
    obtain ⟨d15, hdr, hbd⟩ : ∃ d, d = w13.drew ∧ Below w13.heap.size w13 d := ⟨_, rfl, (Below.refl _ _).drew⟩
    rw [← hdr]
    clear hdr
    have hbc := hbd
    have HB16 := Lib.hid (below_then HB14.out hbc (Nat.le_refl _))
    have HR0_16 := Lib.hid ((HR0_14.out.below hbc).lt)
    have K0_16 := Lib.hid (K0_14.out.after hbc)
    clear hbc HB14 HR0_14 K0_14 hbd
    repeat (first
      | (refine wpTr_fskip (by simp only [List.getElem?_toArray, List.getElem?_cons_zero, List.getElem?_cons_succ]; rfl) (by rfl) ?_
         simp only [Act.put, List.setIfInBounds_toArray, List.set_cons_zero, List.set_cons_succ])
      | (refine wpTr_float (v := ?_) (by simp only [List.getElem?_toArray, List.getElem?_cons_zero, List.getElem?_cons_succ]; rfl) (by rfl) (fun w' hS => ?_) ?_
         rotate_left
         (obtain ⟨hSb, hSb0⟩ := hS; have eSb0 := hSb0.cell 0; have lSb0 := hSb0.lt; simp at eSb0; go_simp; first | done | rfl)
         simp only [Act.put, List.setIfInBounds_toArray, List.set_cons_zero, List.set_cons_succ]))
    refine wpTr_one ?_
    refine stepTr_K (by simp only [List.getElem?_toArray, List.getElem?_cons_zero, List.getElem?_cons_succ]; rfl) (by rfl) (fun K hK => ?_)
    go_simp
    refine (count_any A0 c0 l0 _ HR0_16.out (by omega) (cardS l0) (fun r h1 h2 => count_card h1 h2)).mono ?_
    rintro e w17 ⟨rfl, hb⟩
    have hbc := hb
    have HB18 := Lib.hid (below_then HB16.out hbc (Nat.le_refl _))
    have HR0_18 := Lib.hid ((HR0_16.out.below hbc).lt)
    have K0_18 := Lib.hid (K0_16.out.after hbc)
    clear hbc HB16 HR0_16 K0_16 hb
    refine hK.out _ _ ⟨HB18.out, K0_18.out⟩ ?_
    clear hK K
    try simp only [Act.put, List.setIfInBounds_toArray, List.set_cons_zero, List.set_cons_succ]
    refine wpTr_one ?_
    refine stepTr_K (by simp only [List.getElem?_toArray, List.getElem?_cons_zero, List.getElem?_cons_succ]; rfl) (by rfl) (fun K hK => ?_)
    go_simp
    refine (rCount_any A0 c0 l0 _ HR0_18.out (by omega) (cardS l0) (fun r h1 h2 => count_card h1 h2)).mono ?_
    rintro e w19 ⟨rfl, hb⟩
    have hbc := hb
    have HB20 := Lib.hid (below_then HB18.out hbc (Nat.le_refl _))
    have HR0_20 := Lib.hid ((HR0_18.out.below hbc).lt)
    have K0_20 := Lib.hid (K0_18.out.after hbc)
    clear hbc HB18 HR0_18 K0_18 hb
    refine hK.out _ _ ⟨HB20.out, K0_20.out⟩ ?_
    clear hK K
    try simp only [Act.put, List.setIfInBounds_toArray, List.set_cons_zero, List.set_cons_succ]
    repeat (first
      | (refine wpTr_fskip (by simp only [List.getElem?_toArray, List.getElem?_cons_zero, List.getElem?_cons_succ]; rfl) (by rfl) ?_
         simp only [Act.put, List.setIfInBounds_toArray, List.set_cons_zero, List.set_cons_succ])
      | (refine wpTr_float (v := ?_) (by simp only [List.getElem?_toArray, List.getElem?_cons_zero, List.getElem?_cons_succ]; rfl) (by rfl) (fun w' hS => ?_) ?_
         rotate_left
         (obtain ⟨hSb, hSb0⟩ := hS; have eSb0 := hSb0.cell 0; have lSb0 := hSb0.lt; simp at eSb0; go_simp; first | done | rfl)
         simp only [Act.put, List.setIfInBounds_toArray, List.set_cons_zero, List.set_cons_succ]))
    refine wpTr_one ?_
    refine stepTr_K (by simp only [List.getElem?_toArray, List.getElem?_cons_zero, List.getElem?_cons_succ]; rfl) (by rfl) (fun K hK => ?_)
    go_simp
    refine (alive_any _ (HD.out.below HB20.out) (HM.out.below HB20.out)).mono ?_
    rintro e w21 ⟨rfl, hb⟩
    have hbc := hb
    have HB22 := Lib.hid (below_then HB20.out hbc (Nat.le_refl _))
    have HR0_22 := Lib.hid ((HR0_20.out.below hbc).lt)
    have K0_22 := Lib.hid (K0_20.out.after hbc)
    clear hbc HB20 HR0_20 K0_20 hb
    refine hK.out _ _ ⟨HB22.out, K0_22.out⟩ ?_
    clear hK K
    try simp only [Act.put, List.setIfInBounds_toArray, List.set_cons_zero, List.set_cons_succ]
    repeat (first
      | (refine wpTr_fskip (by simp only [List.getElem?_toArray, List.getElem?_cons_zero, List.getElem?_cons_succ]; rfl) (by rfl) ?_
         simp only [Act.put, List.setIfInBounds_toArray, List.set_cons_zero, List.set_cons_succ])
      | (refine wpTr_float (v := ?_) (by simp only [List.getElem?_toArray, List.getElem?_cons_zero, List.getElem?_cons_succ]; rfl) (by rfl) (fun w' hS => ?_) ?_
         rotate_left
         (obtain ⟨hSb, hSb0⟩ := hS; have eSb0 := hSb0.cell 0; have lSb0 := hSb0.lt; simp at eSb0; go_simp; first | done | rfl)
         simp only [Act.put, List.setIfInBounds_toArray, List.set_cons_zero, List.set_cons_succ]))
    refine wpTr_done ?_
    go_wp2
    go_ret
    exact ⟨rfl, HB22.out⟩
end Go.Proofs.YtogfhaeohcpkjaaDoor.LCounts
