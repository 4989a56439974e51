/-
  CpsetBack: the walk of the law: it returns true, nothing older changes.
-/
import Derived.Test.YtogfhaeohcpkjaaDoorCsL
import Derived.Test.YtogfhaeohcpkjaaDoorTree
import Derived.Deep.QuietTactic
import Derived.BigQuiet
import Derived.IntWalk
import Derived.Outline
import Derived.Test.YtogfhaeohcpkjaaDoorCr7
import Derived.Test.YtogfhaeohcpkjaaDoorCt3
namespace Go.Proofs.YtogfhaeohcpkjaaDoor.LBack
open Go.ChangeShapes Go.WideShapes Go.ChangeAt Go.RowKit Go.UtYtogfhaeohcpkjaaDoor Go.Joins
theorem ex_can (A : Option Addr) (c : Nat) (l : List Rg) (w : World) (hR : Row w w.heap.size A (rgs l)) (hm : l.length ≤ 1099511627776) : ∃ r, Cnn r ∧ ∀ x, hasP r x ↔ hasP l x := by
  obtain ⟨e, w', fr, ⟨A2, c2, r, _, h1, h2, _⟩, _⟩ := make_any A c l w hR hm []
  exact ⟨r, h1, h2⟩
set_option maxRecDepth 100000 in
set_option maxHeartbeats 4000000 in
theorem walk (w : World) (hd : Digs w) (hm : MaxL w) (A0 : Option Addr) (c0 : Nat) (l0 : List Rg) (_lc0 : l0.length ≤ c0) (_lm0 : c0 ≤ maxLen) (hR0 : Row w w.heap.size A0 (rgs l0)) (s1 : ByteArray) (_hs1 : s1.size ≤ maxLen) :
    Calls Tryd.prog 11 #[.agg #[.slice A0 l0.length c0], .string s1] w fun e w' => e = .returned (.bool true) ∧ Below w.heap.size w w' := by
  have HD := Lib.hid hd
  have HM := Lib.hid hm
  clear hd hm
  have HB0 := Lib.hid (Below.refl w.heap.size w)
  have HR0_0 := Lib.hid hR0
  clear hR0
  obtain ⟨tl, rfl⟩ : ∃ tl : List UInt8, s1 = ⟨tl.toArray⟩ := ⟨s1.data.toList, by cases s1; simp⟩
  have hsz : (ByteArray.mk tl.toArray).size = tl.length := by show tl.toArray.size = _; simp
  have htm : tl.length ≤ maxLen := by rw [← hsz]; exact _hs1
  clear _hs1 hsz
  unfold maxLen at htm
  obtain ⟨bS, hS⟩ : ∃ b, decide ((l0.length : Int) ≤ 12) = b := ⟨_, rfl⟩
  have HS := Lib.hid hS
  cases bS with
  | false =>
    clear hS
    go_enter Tryd.func11, Tryd.ntmps11
    go_wp2_with fail
    obtain ⟨n1, hv, hbb, hk0⟩ : ∃ v, v = (w.alloc (.cells #[.slice A0 l0.length c0] 24)) ∧ Below w.heap.size w v ∧ Blk v (w.heap.size) 24 #[.slice A0 l0.length c0] :=
      ⟨_, rfl, (Below.refl _ _).alloc (Nat.le_refl _) _, Blk.at_new (by simp; try omega)⟩
    rw [← hv]
    clear hv
    obtain ⟨b0, ha⟩ : ∃ a, a = w.heap.size := ⟨_, rfl⟩
    rw [← ha] at hk0 ⊢
    clear ha
    have hbc := hbb
    have HB2 := Lib.hid (below_then HB0.out hbc (Nat.le_refl _))
    have HR0_2 := Lib.hid ((HR0_0.out.below hbc).lt)
    have K0_2 := Lib.hid (hk0)
    clear hbc HB0 HR0_0 hbb hk0
    refine (small_any A0 _ c0 _ _ HS.out).mono ?_
    rintro e w3 ⟨rfl, hb⟩
    have hbc := hb
    have HB4 := Lib.hid (below_then HB2.out hbc (Nat.le_refl _))
    have HR0_4 := Lib.hid ((HR0_2.out.below hbc).lt)
    have K0_4 := Lib.hid (K0_2.out.after hbc)
    clear hbc HB2 HR0_2 K0_2 hb
    go_wp2_with fail
    refine (alive_any _ (HD.out.below HB4.out) (HM.out.below HB4.out)).mono ?_
    rintro e w5 ⟨rfl, hb⟩
    have hbc := hb
    have HB6 := Lib.hid (below_then HB4.out hbc (Nat.le_refl _))
    have HR0_6 := Lib.hid ((HR0_4.out.below hbc).lt)
    have K0_6 := Lib.hid (K0_4.out.after hbc)
    clear hbc HB4 HR0_4 K0_4 hb
    go_wp2
    go_ret
    exact ⟨rfl, HB6.out⟩
  | true =>
    have hs0 : l0.length ≤ 12 := by simp at hS; omega
    clear hS
    by_cases htl : tl.length ≤ 400
    · obtain ⟨rk, hrk, hhk⟩ := ex_can A0 c0 l0 w HR0_0.out (by omega)
      obtain ⟨t0, ht0⟩ : ∃ t, textR rk = t := ⟨_, rfl⟩
      have HT0 : Hid (∀ r, Cnn r → (∀ x, hasP r x ↔ hasP l0 x) → textR r = t0) := fun r h1 h2 => by rw [nth_same h1 h2 hrk hhk, ht0]
      have htl0 : t0.length ≤ 16711680 := by
        have h1 := textR_len (cnn_inside hrk)
        have h2 := can_len hrk
        rw [ht0] at h1
        omega
      have HPK : Hid (ParseOut t0 rk 0) := .inl ⟨rfl, hrk, ht0⟩
      have HRK := Lib.hid hrk
      have HHK := Lib.hid hhk
      clear ht0 hrk hhk
      go_enter Tryd.func11, Tryd.ntmps11
      go_wp2_with fail
      obtain ⟨n7, hv, hbb, hk0⟩ : ∃ v, v = (w.alloc (.cells #[.slice A0 l0.length c0] 24)) ∧ Below w.heap.size w v ∧ Blk v (w.heap.size) 24 #[.slice A0 l0.length c0] :=
        ⟨_, rfl, (Below.refl _ _).alloc (Nat.le_refl _) _, Blk.at_new (by simp; try omega)⟩
      rw [← hv]
      clear hv
      obtain ⟨b0, ha⟩ : ∃ a, a = w.heap.size := ⟨_, rfl⟩
      rw [← ha] at hk0 ⊢
      clear ha
      have hbc := hbb
      have HB8 := Lib.hid (below_then HB0.out hbc (Nat.le_refl _))
      have HR0_8 := Lib.hid ((HR0_0.out.below hbc).lt)
      have K0_8 := Lib.hid (hk0)
      clear hbc HB0 HR0_0 hbb hk0
      refine (small_any A0 _ c0 _ _ HS.out).mono ?_
      rintro e w9 ⟨rfl, hb⟩
      have hbc := hb
      have HB10 := Lib.hid (below_then HB8.out hbc (Nat.le_refl _))
      have HR0_10 := Lib.hid ((HR0_8.out.below hbc).lt)
      have K0_10 := Lib.hid (K0_8.out.after hbc)
      clear hbc HB8 HR0_8 K0_8 hb
      have eK0_ := K0_10.out.cell 0
      have lK0_ := K0_10.out.lt
      simp at eK0_
      go_wp2_with fail
      clear eK0_ lK0_
      refine (text_any A0 c0 l0 _ (HD.out.below HB10.out) HR0_10.out (by omega) t0 HT0.out).mono ?_
      rintro e w11 ⟨rfl, hb⟩
      have hbc := hb
      have HB12 := Lib.hid (below_then HB10.out hbc (Nat.le_refl _))
      have HR0_12 := Lib.hid ((HR0_10.out.below hbc).lt)
      have K0_12 := Lib.hid (K0_10.out.after hbc)
      clear hbc HB10 HR0_10 K0_10 hb
      go_wp2_with fail
      refine (parseS_any t0 _ (by omega) (HD.out.below HB12.out) (HM.out.below HB12.out)).mono ?_
      rintro e w13 ⟨Aa, ca, ra, fa, rfl, hpo, hr, hb⟩
      have hbc := hb
      have HB14 := Lib.hid (below_then HB12.out hbc (Nat.le_refl _))
      have HR0_14 := Lib.hid ((HR0_12.out.below hbc).lt)
      have K0_14 := Lib.hid (K0_12.out.after hbc)
      have Ra_14 := Lib.hid (hr)
      clear hbc HB12 HR0_12 K0_12 hb hr
      have Pa := Lib.hid hpo
      clear hpo
      obtain ⟨rfl, rfl⟩ := parse_unique HPK.out Pa.out
      have hrl := can_len HRK.out
      go_wp2_with fail
      obtain ⟨n15, hv, hbb, hk0⟩ : ∃ v, v = (w13.alloc (.cells #[.slice Aa rk.length ca] 24)) ∧ Below w13.heap.size w13 v ∧ Blk v (w13.heap.size) 24 #[.slice Aa rk.length ca] :=
        ⟨_, rfl, (Below.refl _ _).alloc (Nat.le_refl _) _, Blk.at_new (by simp; try omega)⟩
      rw [← hv]
      clear hv
      obtain ⟨ba, ha⟩ : ∃ a, a = w13.heap.size := ⟨_, rfl⟩
      rw [← ha] at hk0 ⊢
      clear ha
      have hbc := hbb
      have HB16 := Lib.hid (below_then HB14.out hbc (Nat.le_refl _))
      have HR0_16 := Lib.hid ((HR0_14.out.below hbc).lt)
      have K0_16 := Lib.hid (K0_14.out.after hbc)
      have Ra_16 := Lib.hid ((Ra_14.out.below hbc).lt)
      have Ka_16 := Lib.hid (hk0)
      clear hbc HB14 HR0_14 K0_14 Ra_14 hbb hk0
      refine (parseS_any tl _ (by omega) (HD.out.below HB16.out) (HM.out.below HB16.out)).mono ?_
      rintro e w17 ⟨Ab, cb, rb, fb, rfl, hpo, hr, hb⟩
      have hbc := hb
      have HB18 := Lib.hid (below_then HB16.out hbc (Nat.le_refl _))
      have HR0_18 := Lib.hid ((HR0_16.out.below hbc).lt)
      have K0_18 := Lib.hid (K0_16.out.after hbc)
      have Ra_18 := Lib.hid ((Ra_16.out.below hbc).lt)
      have Ka_18 := Lib.hid (Ka_16.out.after hbc)
      have Rb_18 := Lib.hid (hr)
      clear hbc HB16 HR0_16 K0_16 Ra_16 Ka_16 hb hr
      have Pb := Lib.hid hpo
      clear hpo
      rcases Pb.out with ⟨hf, hcb, htb⟩ | ⟨hf, hrb, hnb⟩
      · subst hf
        have HCB := Lib.hid hcb
        have hbl := can_len hcb
        have HTB : Hid (∀ r, Cnn r → (∀ x, hasP r x ↔ hasP rb x) → textR r = tl) := fun r h1 h2 => by rw [can_eq h1 hcb h2, htb]
        clear hcb htb
        go_wp2_with fail
        obtain ⟨n19, hv, hbb, hk0⟩ : ∃ v, v = (w17.alloc (.cells #[.slice Ab rb.length cb] 24)) ∧ Below w17.heap.size w17 v ∧ Blk v (w17.heap.size) 24 #[.slice Ab rb.length cb] :=
          ⟨_, rfl, (Below.refl _ _).alloc (Nat.le_refl _) _, Blk.at_new (by simp; try omega)⟩
        rw [← hv]
        clear hv
        obtain ⟨bb, ha⟩ : ∃ a, a = w17.heap.size := ⟨_, rfl⟩
        rw [← ha] at hk0 ⊢
        clear ha
        have hbc := hbb
        have HB20 := Lib.hid (below_then HB18.out hbc (Nat.le_refl _))
        have HR0_20 := Lib.hid ((HR0_18.out.below hbc).lt)
        have K0_20 := Lib.hid (K0_18.out.after hbc)
        have Ra_20 := Lib.hid ((Ra_18.out.below hbc).lt)
        have Ka_20 := Lib.hid (Ka_18.out.after hbc)
        have Rb_20 := Lib.hid ((Rb_18.out.below hbc).lt)
        have Kb_20 := Lib.hid (hk0)
        clear hbc HB18 HR0_18 K0_18 Ra_18 Ka_18 Rb_18 hbb hk0
        refine wp_region_tree (fun w' => Below w.heap.size w w' ∧ Blk w' b0 24 #[.slice A0 l0.length c0] ∧ Blk w' ba 24 #[.slice Aa rk.length ca] ∧ Blk w' bb 24 #[.slice Ab rb.length cb]) (.float 0 (.float 1 (.float 2 (.float 3 (.float 4 (.float 5 (.one 6 (.one 7 (.float 8 (.float 9 (.float 10 (.float 11 (.float 12 (.float 13 (.float 14 (.one 15 (.float 16 (.float 17 (.float 18 (.float 20 (.one 19 (.float 21 (.float 22 (.float 23 (.float 24 .done))))))))))))))))))))))))) (by kernel_rfl) (by kernel_rfl) (fun _ _ d _ _ h => by cases d <;> exact h) ⟨HB20.out.drew, K0_20.out.drew, Ka_20.out.drew, Kb_20.out.drew⟩ ?_
        obtain ⟨d21, hdr, hbd⟩ : ∃ d, d = n19.drew ∧ Below n19.heap.size n19 d := ⟨_, rfl, (Below.refl _ _).drew⟩
        rw [← hdr]
        clear hdr
        have hbc := hbd
        have HB22 := Lib.hid (below_then HB20.out hbc (Nat.le_refl _))
        have HR0_22 := Lib.hid ((HR0_20.out.below hbc).lt)
        have K0_22 := Lib.hid (K0_20.out.after hbc)
        have Ra_22 := Lib.hid ((Ra_20.out.below hbc).lt)
        have Ka_22 := Lib.hid (Ka_20.out.after hbc)
        have Rb_22 := Lib.hid ((Rb_20.out.below hbc).lt)
        have Kb_22 := Lib.hid (Kb_20.out.after hbc)
        clear hbc HB20 HR0_20 K0_20 Ra_20 Ka_20 Rb_20 Kb_20 hbd
        repeat (first
          | (refine wpTr_fskip (by simp only [List.getElem?_toArray, List.getElem?_cons_zero, List.getElem?_cons_succ]; rfl) (by rfl) ?_
             simp only [Act.put, List.setIfInBounds_toArray, List.set_cons_zero, List.set_cons_succ])
          | (refine wpTr_float (v := ?_) (by simp only [List.getElem?_toArray, List.getElem?_cons_zero, List.getElem?_cons_succ]; rfl) (by rfl) (fun w' hS => ?_) ?_
             rotate_left
             (obtain ⟨hSb, hSb0, hSba, hSbb⟩ := hS; have eSb0 := hSb0.cell 0; have lSb0 := hSb0.lt; simp at eSb0; have eSba := hSba.cell 0; have lSba := hSba.lt; simp at eSba; have eSbb := hSbb.cell 0; have lSbb := hSbb.lt; simp at eSbb; go_simp; first | done | rfl)
             simp only [Act.put, List.setIfInBounds_toArray, List.set_cons_zero, List.set_cons_succ]))
        refine wpTr_one ?_
        refine stepTr_K (by simp only [List.getElem?_toArray, List.getElem?_cons_zero, List.getElem?_cons_succ]; rfl) (by rfl) (fun K hK => ?_)
        go_simp
        refine (make_any A0 c0 l0 _ HR0_22.out (by omega)).mono ?_
        rintro e w23 ⟨Am, cm, rm, rfl, hc, hh, hr, hb⟩
        have hbc := hb
        have HB24 := Lib.hid (below_then HB22.out hbc (Nat.le_refl _))
        have HR0_24 := Lib.hid ((HR0_22.out.below hbc).lt)
        have K0_24 := Lib.hid (K0_22.out.after hbc)
        have Ra_24 := Lib.hid ((Ra_22.out.below hbc).lt)
        have Ka_24 := Lib.hid (Ka_22.out.after hbc)
        have Rb_24 := Lib.hid ((Rb_22.out.below hbc).lt)
        have Kb_24 := Lib.hid (Kb_22.out.after hbc)
        have Rm_24 := Lib.hid (hr)
        clear hbc HB22 HR0_22 K0_22 Ra_22 Ka_22 Rb_22 Kb_22 hb hr
        have Cm := Lib.hid hc
        have Mm := Lib.hid hh
        clear hc hh
        refine hK.out _ _ ⟨HB24.out, K0_24.out, Ka_24.out, Kb_24.out⟩ ?_
        clear hK K
        try simp only [Act.put, List.setIfInBounds_toArray, List.set_cons_zero, List.set_cons_succ]
        refine wpTr_one ?_
        refine stepTr_K (by simp only [List.getElem?_toArray, List.getElem?_cons_zero, List.getElem?_cons_succ]; rfl) (by rfl) (fun K hK => ?_)
        go_simp
        refine (same_any Aa Am ca cm _ _ rk rm rfl rfl _ Ra_24.out Rm_24.out (by simp only [maxLen]; omega) (by have := can_len Cm.out; simp only [maxLen]; omega) true (decide_eq_true (can_eq HRK.out Cm.out (fun x => (HHK.out x).trans (Mm.out x).symm)))).mono ?_
        rintro e w25 ⟨rfl, hb⟩
        have hbc := hb
        have HB26 := Lib.hid (below_then HB24.out hbc (Nat.le_refl _))
        have HR0_26 := Lib.hid ((HR0_24.out.below hbc).lt)
        have K0_26 := Lib.hid (K0_24.out.after hbc)
        have Ra_26 := Lib.hid ((Ra_24.out.below hbc).lt)
        have Ka_26 := Lib.hid (Ka_24.out.after hbc)
        have Rb_26 := Lib.hid ((Rb_24.out.below hbc).lt)
        have Kb_26 := Lib.hid (Kb_24.out.after hbc)
        have Rm_26 := Lib.hid ((Rm_24.out.below hbc).lt)
        clear hbc HB24 HR0_24 K0_24 Ra_24 Ka_24 Rb_24 Kb_24 Rm_24 hb
        refine hK.out _ _ ⟨HB26.out, K0_26.out, Ka_26.out, Kb_26.out⟩ ?_
        clear hK K
        try simp only [Act.put, List.setIfInBounds_toArray, List.set_cons_zero, List.set_cons_succ]
        repeat (first
          | (refine wpTr_fskip (by simp only [List.getElem?_toArray, List.getElem?_cons_zero, List.getElem?_cons_succ]; rfl) (by rfl) ?_
             simp only [Act.put, List.setIfInBounds_toArray, List.set_cons_zero, List.set_cons_succ])
          | (refine wpTr_float (v := ?_) (by simp only [List.getElem?_toArray, List.getElem?_cons_zero, List.getElem?_cons_succ]; rfl) (by rfl) (fun w' hS => ?_) ?_
             rotate_left
             (obtain ⟨hSb, hSb0, hSba, hSbb⟩ := hS; have eSb0 := hSb0.cell 0; have lSb0 := hSb0.lt; simp at eSb0; have eSba := hSba.cell 0; have lSba := hSba.lt; simp at eSba; have eSbb := hSbb.cell 0; have lSbb := hSbb.lt; simp at eSbb; go_simp; first | done | rfl)
             simp only [Act.put, List.setIfInBounds_toArray, List.set_cons_zero, List.set_cons_succ]))
        refine wpTr_one ?_
        refine stepTr_K (by simp only [List.getElem?_toArray, List.getElem?_cons_zero, List.getElem?_cons_succ]; rfl) (by rfl) (fun K hK => ?_)
        go_simp
        refine (validS_any Ab _ cb rb rfl _ Rb_26.out (by omega) true ⟨fun _ => HCB.out, fun _ => rfl⟩).mono ?_
        rintro e w27 ⟨rfl, hb⟩
        have hbc := hb
        have HB28 := Lib.hid (below_then HB26.out hbc (Nat.le_refl _))
        have HR0_28 := Lib.hid ((HR0_26.out.below hbc).lt)
        have K0_28 := Lib.hid (K0_26.out.after hbc)
        have Ra_28 := Lib.hid ((Ra_26.out.below hbc).lt)
        have Ka_28 := Lib.hid (Ka_26.out.after hbc)
        have Rb_28 := Lib.hid ((Rb_26.out.below hbc).lt)
        have Kb_28 := Lib.hid (Kb_26.out.after hbc)
        have Rm_28 := Lib.hid ((Rm_26.out.below hbc).lt)
        clear hbc HB26 HR0_26 K0_26 Ra_26 Ka_26 Rb_26 Kb_26 Rm_26 hb
        refine hK.out _ _ ⟨HB28.out, K0_28.out, Ka_28.out, Kb_28.out⟩ ?_
        clear hK K
        try simp only [Act.put, List.setIfInBounds_toArray, List.set_cons_zero, List.set_cons_succ]
        repeat (first
          | (refine wpTr_fskip (by simp only [List.getElem?_toArray, List.getElem?_cons_zero, List.getElem?_cons_succ]; rfl) (by rfl) ?_
             simp only [Act.put, List.setIfInBounds_toArray, List.set_cons_zero, List.set_cons_succ])
          | (refine wpTr_float (v := ?_) (by simp only [List.getElem?_toArray, List.getElem?_cons_zero, List.getElem?_cons_succ]; rfl) (by rfl) (fun w' hS => ?_) ?_
             rotate_left
             (obtain ⟨hSb, hSb0, hSba, hSbb⟩ := hS; have eSb0 := hSb0.cell 0; have lSb0 := hSb0.lt; simp at eSb0; have eSba := hSba.cell 0; have lSba := hSba.lt; simp at eSba; have eSbb := hSbb.cell 0; have lSbb := hSbb.lt; simp at eSbb; go_simp; first | done | rfl)
             simp only [Act.put, List.setIfInBounds_toArray, List.set_cons_zero, List.set_cons_succ]))
        refine wpTr_one ?_
        refine stepTr_K (by simp only [List.getElem?_toArray, List.getElem?_cons_zero, List.getElem?_cons_succ]; rfl) (by rfl) (fun K hK => ?_)
        go_simp
        refine (text_any Ab cb rb _ (HD.out.below HB28.out) Rb_28.out (by omega) tl HTB.out).mono ?_
        rintro e w29 ⟨rfl, hb⟩
        have hbc := hb
        have HB30 := Lib.hid (below_then HB28.out hbc (Nat.le_refl _))
        have HR0_30 := Lib.hid ((HR0_28.out.below hbc).lt)
        have K0_30 := Lib.hid (K0_28.out.after hbc)
        have Ra_30 := Lib.hid ((Ra_28.out.below hbc).lt)
        have Ka_30 := Lib.hid (Ka_28.out.after hbc)
        have Rb_30 := Lib.hid ((Rb_28.out.below hbc).lt)
        have Kb_30 := Lib.hid (Kb_28.out.after hbc)
        have Rm_30 := Lib.hid ((Rm_28.out.below hbc).lt)
        clear hbc HB28 HR0_28 K0_28 Ra_28 Ka_28 Rb_28 Kb_28 Rm_28 hb
        refine hK.out _ _ ⟨HB30.out, K0_30.out, Ka_30.out, Kb_30.out⟩ ?_
        clear hK K
        try simp only [Act.put, List.setIfInBounds_toArray, List.set_cons_zero, List.set_cons_succ]
        repeat (first
          | (refine wpTr_fskip (by simp only [List.getElem?_toArray, List.getElem?_cons_zero, List.getElem?_cons_succ]; rfl) (by rfl) ?_
             simp only [Act.put, List.setIfInBounds_toArray, List.set_cons_zero, List.set_cons_succ])
          | (refine wpTr_float (v := ?_) (by simp only [List.getElem?_toArray, List.getElem?_cons_zero, List.getElem?_cons_succ]; rfl) (by rfl) (fun w' hS => ?_) ?_
             rotate_left
             (obtain ⟨hSb, hSb0, hSba, hSbb⟩ := hS; have eSb0 := hSb0.cell 0; have lSb0 := hSb0.lt; simp at eSb0; have eSba := hSba.cell 0; have lSba := hSba.lt; simp at eSba; have eSbb := hSbb.cell 0; have lSbb := hSbb.lt; simp at eSbb; go_simp; first | done | rfl)
             simp only [Act.put, List.setIfInBounds_toArray, List.set_cons_zero, List.set_cons_succ]))
        refine wpTr_done ?_
        go_wp2_with fail
        refine (alive_any _ (HD.out.below HB30.out) (HM.out.below HB30.out)).mono ?_
        rintro e w31 ⟨rfl, hb⟩
        have hbc := hb
        have HB32 := Lib.hid (below_then HB30.out hbc (Nat.le_refl _))
        have HR0_32 := Lib.hid ((HR0_30.out.below hbc).lt)
        have K0_32 := Lib.hid (K0_30.out.after hbc)
        have Ra_32 := Lib.hid ((Ra_30.out.below hbc).lt)
        have Ka_32 := Lib.hid (Ka_30.out.after hbc)
        have Rb_32 := Lib.hid ((Rb_30.out.below hbc).lt)
        have Kb_32 := Lib.hid (Kb_30.out.after hbc)
        have Rm_32 := Lib.hid ((Rm_30.out.below hbc).lt)
        clear hbc HB30 HR0_30 K0_30 Ra_30 Ka_30 Rb_30 Kb_30 Rm_30 hb
        go_wp2
        go_ret
        exact ⟨rfl, HB32.out⟩
      · subst hf
        subst hrb
        clear hnb
        go_wp2_with fail
        obtain ⟨n33, hv, hbb, hk0⟩ : ∃ v, v = (w17.alloc (.cells #[.slice Ab 0 cb] 24)) ∧ Below w17.heap.size w17 v ∧ Blk v (w17.heap.size) 24 #[.slice Ab 0 cb] :=
          ⟨_, rfl, (Below.refl _ _).alloc (Nat.le_refl _) _, Blk.at_new (by simp; try omega)⟩
        rw [← hv]
        clear hv
        obtain ⟨bb, ha⟩ : ∃ a, a = w17.heap.size := ⟨_, rfl⟩
        rw [← ha] at hk0 ⊢
        clear ha
        have hbc := hbb
        have HB34 := Lib.hid (below_then HB18.out hbc (Nat.le_refl _))
        have HR0_34 := Lib.hid ((HR0_18.out.below hbc).lt)
        have K0_34 := Lib.hid (K0_18.out.after hbc)
        have Ra_34 := Lib.hid ((Ra_18.out.below hbc).lt)
        have Ka_34 := Lib.hid (Ka_18.out.after hbc)
        have Rb_34 := Lib.hid ((Rb_18.out.below hbc).lt)
        have Kb_34 := Lib.hid (hk0)
        clear hbc HB18 HR0_18 K0_18 Ra_18 Ka_18 Rb_18 hbb hk0
        refine wp_region_tree (fun w' => Below w.heap.size w w' ∧ Blk w' b0 24 #[.slice A0 l0.length c0] ∧ Blk w' ba 24 #[.slice Aa rk.length ca] ∧ Blk w' bb 24 #[.slice Ab 0 cb]) (.float 0 (.float 1 (.float 2 (.float 3 (.float 4 (.float 5 (.one 6 (.one 7 (.float 8 (.float 9 (.float 10 (.float 11 (.float 12 (.float 13 (.float 14 (.one 15 (.float 16 (.float 17 (.float 18 (.float 20 (.one 19 (.float 21 (.float 22 (.float 23 (.float 24 .done))))))))))))))))))))))))) (by kernel_rfl) (by kernel_rfl) (fun _ _ d _ _ h => by cases d <;> exact h) ⟨HB34.out.drew, K0_34.out.drew, Ka_34.out.drew, Kb_34.out.drew⟩ ?_
        obtain ⟨d35, hdr, hbd⟩ : ∃ d, d = n33.drew ∧ Below n33.heap.size n33 d := ⟨_, rfl, (Below.refl _ _).drew⟩
        rw [← hdr]
        clear hdr
        have hbc := hbd
        have HB36 := Lib.hid (below_then HB34.out hbc (Nat.le_refl _))
        have HR0_36 := Lib.hid ((HR0_34.out.below hbc).lt)
        have K0_36 := Lib.hid (K0_34.out.after hbc)
        have Ra_36 := Lib.hid ((Ra_34.out.below hbc).lt)
        have Ka_36 := Lib.hid (Ka_34.out.after hbc)
        have Rb_36 := Lib.hid ((Rb_34.out.below hbc).lt)
        have Kb_36 := Lib.hid (Kb_34.out.after hbc)
        clear hbc HB34 HR0_34 K0_34 Ra_34 Ka_34 Rb_34 Kb_34 hbd
        repeat (first
          | (refine wpTr_fskip (by simp only [List.getElem?_toArray, List.getElem?_cons_zero, List.getElem?_cons_succ]; rfl) (by rfl) ?_
             simp only [Act.put, List.setIfInBounds_toArray, List.set_cons_zero, List.set_cons_succ])
          | (refine wpTr_float (v := ?_) (by simp only [List.getElem?_toArray, List.getElem?_cons_zero, List.getElem?_cons_succ]; rfl) (by rfl) (fun w' hS => ?_) ?_
             rotate_left
             (obtain ⟨hSb, hSb0, hSba, hSbb⟩ := hS; have eSb0 := hSb0.cell 0; have lSb0 := hSb0.lt; simp at eSb0; have eSba := hSba.cell 0; have lSba := hSba.lt; simp at eSba; have eSbb := hSbb.cell 0; have lSbb := hSbb.lt; simp at eSbb; go_simp; first | done | rfl)
             simp only [Act.put, List.setIfInBounds_toArray, List.set_cons_zero, List.set_cons_succ]))
        refine wpTr_one ?_
        refine stepTr_K (by simp only [List.getElem?_toArray, List.getElem?_cons_zero, List.getElem?_cons_succ]; rfl) (by rfl) (fun K hK => ?_)
        go_simp
        refine (make_any A0 c0 l0 _ HR0_36.out (by omega)).mono ?_
        rintro e w37 ⟨Am, cm, rm, rfl, hc, hh, hr, hb⟩
        have hbc := hb
        have HB38 := Lib.hid (below_then HB36.out hbc (Nat.le_refl _))
        have HR0_38 := Lib.hid ((HR0_36.out.below hbc).lt)
        have K0_38 := Lib.hid (K0_36.out.after hbc)
        have Ra_38 := Lib.hid ((Ra_36.out.below hbc).lt)
        have Ka_38 := Lib.hid (Ka_36.out.after hbc)
        have Rb_38 := Lib.hid ((Rb_36.out.below hbc).lt)
        have Kb_38 := Lib.hid (Kb_36.out.after hbc)
        have Rm_38 := Lib.hid (hr)
        clear hbc HB36 HR0_36 K0_36 Ra_36 Ka_36 Rb_36 Kb_36 hb hr
        have Cm := Lib.hid hc
        have Mm := Lib.hid hh
        clear hc hh
        refine hK.out _ _ ⟨HB38.out, K0_38.out, Ka_38.out, Kb_38.out⟩ ?_
        clear hK K
        try simp only [Act.put, List.setIfInBounds_toArray, List.set_cons_zero, List.set_cons_succ]
        refine wpTr_one ?_
        refine stepTr_K (by simp only [List.getElem?_toArray, List.getElem?_cons_zero, List.getElem?_cons_succ]; rfl) (by rfl) (fun K hK => ?_)
        go_simp
        refine (same_any Aa Am ca cm _ _ rk rm rfl rfl _ Ra_38.out Rm_38.out (by simp only [maxLen]; omega) (by have := can_len Cm.out; simp only [maxLen]; omega) true (decide_eq_true (can_eq HRK.out Cm.out (fun x => (HHK.out x).trans (Mm.out x).symm)))).mono ?_
        rintro e w39 ⟨rfl, hb⟩
        have hbc := hb
        have HB40 := Lib.hid (below_then HB38.out hbc (Nat.le_refl _))
        have HR0_40 := Lib.hid ((HR0_38.out.below hbc).lt)
        have K0_40 := Lib.hid (K0_38.out.after hbc)
        have Ra_40 := Lib.hid ((Ra_38.out.below hbc).lt)
        have Ka_40 := Lib.hid (Ka_38.out.after hbc)
        have Rb_40 := Lib.hid ((Rb_38.out.below hbc).lt)
        have Kb_40 := Lib.hid (Kb_38.out.after hbc)
        have Rm_40 := Lib.hid ((Rm_38.out.below hbc).lt)
        clear hbc HB38 HR0_38 K0_38 Ra_38 Ka_38 Rb_38 Kb_38 Rm_38 hb
        refine hK.out _ _ ⟨HB40.out, K0_40.out, Ka_40.out, Kb_40.out⟩ ?_
        clear hK K
        try simp only [Act.put, List.setIfInBounds_toArray, List.set_cons_zero, List.set_cons_succ]
        repeat (first
          | (refine wpTr_fskip (by simp only [List.getElem?_toArray, List.getElem?_cons_zero, List.getElem?_cons_succ]; rfl) (by rfl) ?_
             simp only [Act.put, List.setIfInBounds_toArray, List.set_cons_zero, List.set_cons_succ])
          | (refine wpTr_float (v := ?_) (by simp only [List.getElem?_toArray, List.getElem?_cons_zero, List.getElem?_cons_succ]; rfl) (by rfl) (fun w' hS => ?_) ?_
             rotate_left
             (obtain ⟨hSb, hSb0, hSba, hSbb⟩ := hS; have eSb0 := hSb0.cell 0; have lSb0 := hSb0.lt; simp at eSb0; have eSba := hSba.cell 0; have lSba := hSba.lt; simp at eSba; have eSbb := hSbb.cell 0; have lSbb := hSbb.lt; simp at eSbb; go_simp; first | done | rfl)
             simp only [Act.put, List.setIfInBounds_toArray, List.set_cons_zero, List.set_cons_succ]))
        refine wpTr_one ?_
        refine wpTr_skip (by simp only [List.getElem?_toArray, List.getElem?_cons_zero, List.getElem?_cons_succ]; rfl) (by rfl) ?_
        try simp only [Act.put, List.setIfInBounds_toArray, List.set_cons_zero, List.set_cons_succ]
        repeat (first
          | (refine wpTr_fskip (by simp only [List.getElem?_toArray, List.getElem?_cons_zero, List.getElem?_cons_succ]; rfl) (by rfl) ?_
             simp only [Act.put, List.setIfInBounds_toArray, List.set_cons_zero, List.set_cons_succ])
          | (refine wpTr_float (v := ?_) (by simp only [List.getElem?_toArray, List.getElem?_cons_zero, List.getElem?_cons_succ]; rfl) (by rfl) (fun w' hS => ?_) ?_
             rotate_left
             (obtain ⟨hSb, hSb0, hSba, hSbb⟩ := hS; have eSb0 := hSb0.cell 0; have lSb0 := hSb0.lt; simp at eSb0; have eSba := hSba.cell 0; have lSba := hSba.lt; simp at eSba; have eSbb := hSbb.cell 0; have lSbb := hSbb.lt; simp at eSbb; go_simp; first | done | rfl)
             simp only [Act.put, List.setIfInBounds_toArray, List.set_cons_zero, List.set_cons_succ]))
        refine wpTr_one ?_
        refine wpTr_skip (by simp only [List.getElem?_toArray, List.getElem?_cons_zero, List.getElem?_cons_succ]; rfl) (by rfl) ?_
        try simp only [Act.put, List.setIfInBounds_toArray, List.set_cons_zero, List.set_cons_succ]
        repeat (first
          | (refine wpTr_fskip (by simp only [List.getElem?_toArray, List.getElem?_cons_zero, List.getElem?_cons_succ]; rfl) (by rfl) ?_
             simp only [Act.put, List.setIfInBounds_toArray, List.set_cons_zero, List.set_cons_succ])
          | (refine wpTr_float (v := ?_) (by simp only [List.getElem?_toArray, List.getElem?_cons_zero, List.getElem?_cons_succ]; rfl) (by rfl) (fun w' hS => ?_) ?_
             rotate_left
             (obtain ⟨hSb, hSb0, hSba, hSbb⟩ := hS; have eSb0 := hSb0.cell 0; have lSb0 := hSb0.lt; simp at eSb0; have eSba := hSba.cell 0; have lSba := hSba.lt; simp at eSba; have eSbb := hSbb.cell 0; have lSbb := hSbb.lt; simp at eSbb; go_simp; first | done | rfl)
             simp only [Act.put, List.setIfInBounds_toArray, List.set_cons_zero, List.set_cons_succ]))
        refine wpTr_done ?_
        have eKb_ := Kb_40.out.cell 0
        have lKb_ := Kb_40.out.lt
        simp at eKb_
        go_wp2_with fail
        clear eKb_ lKb_
        refine (alive_any _ (HD.out.below HB40.out) (HM.out.below HB40.out)).mono ?_
        rintro e w41 ⟨rfl, hb⟩
        have hbc := hb
        have HB42 := Lib.hid (below_then HB40.out hbc (Nat.le_refl _))
        have HR0_42 := Lib.hid ((HR0_40.out.below hbc).lt)
        have K0_42 := Lib.hid (K0_40.out.after hbc)
        have Ra_42 := Lib.hid ((Ra_40.out.below hbc).lt)
        have Ka_42 := Lib.hid (Ka_40.out.after hbc)
        have Rb_42 := Lib.hid ((Rb_40.out.below hbc).lt)
        have Kb_42 := Lib.hid (Kb_40.out.after hbc)
        have Rm_42 := Lib.hid ((Rm_40.out.below hbc).lt)
        clear hbc HB40 HR0_40 K0_40 Ra_40 Ka_40 Rb_40 Kb_40 Rm_40 hb
        go_wp2
        go_ret
        exact ⟨rfl, HB42.out⟩
    · have htl2 : 400 < tl.length := by omega
      go_enter Tryd.func11, Tryd.ntmps11
      go_wp2_with fail
      obtain ⟨n43, hv, hbb, hk0⟩ : ∃ v, v = (w.alloc (.cells #[.slice A0 l0.length c0] 24)) ∧ Below w.heap.size w v ∧ Blk v (w.heap.size) 24 #[.slice A0 l0.length c0] :=
        ⟨_, rfl, (Below.refl _ _).alloc (Nat.le_refl _) _, Blk.at_new (by simp; try omega)⟩
      rw [← hv]
      clear hv
      obtain ⟨b0, ha⟩ : ∃ a, a = w.heap.size := ⟨_, rfl⟩
      rw [← ha] at hk0 ⊢
      clear ha
      have hbc := hbb
      have HB44 := Lib.hid (below_then HB0.out hbc (Nat.le_refl _))
      have HR0_44 := Lib.hid ((HR0_0.out.below hbc).lt)
      have K0_44 := Lib.hid (hk0)
      clear hbc HB0 HR0_0 hbb hk0
      refine (small_any A0 _ c0 _ _ HS.out).mono ?_
      rintro e w45 ⟨rfl, hb⟩
      have hbc := hb
      have HB46 := Lib.hid (below_then HB44.out hbc (Nat.le_refl _))
      have HR0_46 := Lib.hid ((HR0_44.out.below hbc).lt)
      have K0_46 := Lib.hid (K0_44.out.after hbc)
      clear hbc HB44 HR0_44 K0_44 hb
      go_wp2_with fail
      refine (alive_any _ (HD.out.below HB46.out) (HM.out.below HB46.out)).mono ?_
      rintro e w47 ⟨rfl, hb⟩
      have hbc := hb
      have HB48 := Lib.hid (below_then HB46.out hbc (Nat.le_refl _))
      have HR0_48 := Lib.hid ((HR0_46.out.below hbc).lt)
      have K0_48 := Lib.hid (K0_46.out.after hbc)
      clear hbc HB46 HR0_46 K0_46 hb
      go_wp2
      go_ret
      exact ⟨rfl, HB48.out⟩
end Go.Proofs.YtogfhaeohcpkjaaDoor.LBack
