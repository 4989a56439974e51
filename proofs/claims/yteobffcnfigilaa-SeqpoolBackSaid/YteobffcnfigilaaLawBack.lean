/-
  SeqpoolBack: for every input the law returns true, and its arguments read as before. No condition.
-/
import Derived.Test.YteobffcnfigilaaRows
import Derived.Test.YteobffcnfigilaaLift
import Derived.Test.YteobffcnfigilaaLst
import Derived.Test.YteobffcnfigilaaSp10
import Derived.Test.YteobffcnfigilaaTree
import Derived.Deep.DeepCutAuto
import Derived.Deep.CutBlock
namespace Go.Proofs.Yteobffcnfigilaa.LBack
open Go.ChangeShapes Go.WideShapes Go.ChangeAt Go.RowKit Go.UtYteobffcnfigilaa Go.Joins
theorem find_pack {l : List (List Int)} {k : Nat} {xs : List Int} (h : l[k]? = some xs) : ∃ j, j ≤ k ∧ l[j]? = some xs ∧ find14 (pack14 l) xs = ((j : Int), true) := by
  obtain ⟨a1, a2, a3⟩ := pack_facts l
  have hk : k < l.length := (List.getElem?_eq_some_iff.1 h).1
  rcases findGo_eq (pack14 l) xs (pack14 l).S.length 0 (by omega) (fun j hj => by omega) with ⟨i, _, h2, h3, h4, h5⟩ | ⟨h2, _⟩
  · have hi : i ≤ k := by
      rcases Nat.lt_or_ge k i with h6 | h6
      · exact absurd (a3 k xs h) (h4 k h6)
      · exact h6
    have hil : i < l.length := by omega
    refine ⟨i, hi, ?_, ?_⟩
    · rw [List.getElem?_eq_getElem hil]
      have := a3 i _ (List.getElem?_eq_getElem hil)
      rw [← this, h3]
    · unfold find14
      rw [if_pos a1]
      exact h5
  · exact absurd (a3 k xs h) (h2 k (by omega))
attribute [local go_sem high] cut_l cut_lh cut_lhm cutA_zero
attribute [local go_sem 500] cut_any
set_option maxRecDepth 100000 in
set_option maxHeartbeats 4000000 in
theorem walk (w : World) (A : Option Addr) (c : Nat) (l : List (List Int)) (lc : l.length ≤ c) (lm : c ≤ maxLen) (hA : Rows2 w w.heap.size A l) :
    Calls Try.prog 9 #[.slice A l.length c] w fun e w' => e = .returned (.bool true) ∧ Below w.heap.size w w' := by
  have hlm := Nat.le_trans lc lm
  have HAW := Lib.hid hA
  have HA0 := Lib.hid hA
  clear hA
  have HB0 := Lib.hid (Below.refl w.heap.size w)
  obtain ⟨bHD, hd⟩ : ∃ b, fewB l = b := ⟨_, rfl⟩
  have HD := Lib.hid hd
  cases bHD with
  | false =>
    clear hd
    go_enter Try.func9, Try.ntmps9
    go_wp2_with fail
    refine (few_any _ _ _ _ _ HA0.out hlm _ HD.out).mono ?_
    rintro e w' ⟨rfl, rfl⟩
    go_wp2_with fail
    refine (alive_any _).mono ?_
    rintro e w1 ⟨rfl, hb⟩
    have hbc := hb
    have HA2 := Lib.hid ((HA0.out.below hbc).lt)
    have HB2 := Lib.hid (below_then HB0.out hbc (Nat.le_refl _))
    clear hbc HA0 HB0 hb
    go_wp2
    go_ret
    exact ⟨rfl, HB2.out⟩
  | true =>
    obtain ⟨h12, h20⟩ := few_of hd
    have H20 := Lib.hid h20
    obtain ⟨z1, z2, z3⟩ := pack_len l h20
    have Z2 := Lib.hid z2
    have z2a : (pack14 l).S.length ≤ 12 := by omega
    have z3a : (pack14 l).L.length ≤ 12 := by omega
    clear hd h20 z2 z3
    go_enter Try.func9, Try.ntmps9
    go_wp2_with fail
    refine (few_any _ _ _ _ _ HA0.out hlm _ HD.out).mono ?_
    rintro e w' ⟨rfl, rfl⟩
    go_wp2_with fail
    refine (pack_any A c l _ HA0.out HD.out).mono ?_
    rintro e w3 ⟨A1, c1, A2, c2, A3, c3, rfl, hp, hb⟩
    have hbc := hb
    have HA4 := Lib.hid ((HA0.out.below hbc).lt)
    have HB4 := Lib.hid (below_then HB0.out hbc (Nat.le_refl _))
    have P14 := Lib.hid (hp)
    clear hbc HA0 HB0 hb
    clear hp
    go_wp2_with fail
    obtain ⟨n5, hv, hbb, hk0⟩ : ∃ v, v = (w3.alloc (.cells #[.slice A1 (pack14 l).C.length c1, .slice A2 (pack14 l).S.length c2, .slice A3 (pack14 l).L.length c3] 27)) ∧ Below w3.heap.size w3 v ∧ Blk v (w3.heap.size) 27 #[.slice A1 (pack14 l).C.length c1, .slice A2 (pack14 l).S.length c2, .slice A3 (pack14 l).L.length c3] :=
      ⟨_, rfl, (Below.refl _ _).alloc (Nat.le_refl _) _, Blk.at_new (by simp; try omega)⟩
    rw [← hv]
    clear hv
    have hbc := hbb
    have HA6 := Lib.hid ((HA4.out.below hbc).lt)
    have HB6 := Lib.hid (below_then HB4.out hbc (Nat.le_refl _))
    have P16 := Lib.hid ((P14.out.below hbc).lt)
    have KP6 := Lib.hid (hk0)
    clear hbc HA4 HB4 P14 hbb hk0
    obtain ⟨tp, htp⟩ : ∃ t, t = w3.heap.size := ⟨_, rfl⟩
    rw [← htp] at KP6 ⊢
    clear htp
    go_loopw [4] (fun s4 wr => ∃ k : Nat, k ≤ l.length ∧ s4 = .int .i64 (k : Int) ∧ Hid (Below w.heap.size w wr) ∧ Hid (Rows2 wr wr.heap.size A l) ∧ Hid (PlAt wr wr.heap.size A1 c1 A2 c2 A3 c3 (pack14 l)) ∧ Hid (Blk wr tp 27 #[.slice A1 (pack14 l).C.length c1, .slice A2 (pack14 l).S.length c2, .slice A3 (pack14 l).L.length c3])) (fun i _ => l.length - (intOf i).toNat)
    case atStart => exact ⟨0, by omega, rfl, HB6, HA6, P16, KP6⟩
    case round =>
      clear HA6 HB6 P16 KP6
      obtain ⟨k, hk, rfl, HB, HA, P1, KP⟩ := hrel
      by_cases h1 : k < l.length
      · obtain ⟨b, o, A', c', xs, rfl, hb0x, hx, hc, l1, l2, hr0⟩ := HAW.out.at_ h1
        obtain ⟨j, hjk, hjx, hjf⟩ := find_pack hx.out
        have hjl : j < l.length := by omega
        obtain ⟨b', o', B', d', ys, e, hb', hy, hc', l1', l2', hr1⟩ := HAW.out.at_ hjl
        injection e with e
        injection e with ea eb
        subst ea eb
        obtain rfl : xs = ys := Option.some.inj (hjx.symm.trans hy.out)
        have HX := Lib.hid hx.out
        have HF := Lib.hid hjf
        have HC1 := Lib.hid hc
        have HC2 := Lib.hid hc'
        have hx20 := H20.out xs (List.mem_of_getElem? hx.out)
        have d1 : decide ((k : Int) < (j : Int)) = false := decide_eq_false (by omega)
        have d1n : decide (k < j) = false := decide_eq_false (by omega)
        have d2 : decide ((j : Int) < 0) = false := decide_eq_false (by omega)
        have d3 : (j : Int) < (l.length : Int) := by omega
        have hr0' := (hr0.below HB.out).lt
        have hr1' := (hr1.below HB.out).lt
        have R0 := Lib.hid hr0'
        have R1 := Lib.hid hr1'
        clear hr0 hr1 hr0' hr1' hc hc' hjx hjf hx hy hb'
        
        obtain ⟨eKP0, eKP1, eKP2⟩ := KP.out.cells3
        have lKP := KP.out.lt
        go_wp2_with fail
        clear eKP0 eKP1 eKP2 lKP
        refine (get_any A1 A2 A3 c1 c2 c3 (pack14 l) _ _ P1.out ⟨by omega, by omega, by omega⟩ xs true (get_pack HX.out)).mono ?_
        rintro e w7 ⟨D1, e1, rfl, x1, x2, hr, hb⟩
        have hbc := hb
        have HB8 := Lib.hid (below_then HB.out hbc (Nat.le_refl _))
        have HA8 := Lib.hid ((HA.out.below hbc).lt)
        have P18 := Lib.hid ((P1.out.below hbc).lt)
        have KP8 := Lib.hid (KP.out.after hbc)
        have R08 := Lib.hid ((R0.out.below hbc).lt)
        have R18 := Lib.hid ((R1.out.below hbc).lt)
        have RG8 := Lib.hid (hr)
        clear hbc HB HA P1 KP R0 R1 hb
        clear hr
        go_wp2_with fail
        refine wp_region_tree (fun w' => Below w.heap.size w w' ∧ Blk w' tp 27 #[.slice A1 (pack14 l).C.length c1, .slice A2 (pack14 l).S.length c2, .slice A3 (pack14 l).L.length c3]) (.float 0 (.float 1 (.float 2 (.float 3 (.float 4 (.one 5 (.float 6 (.float 7 (.float 8 (.float 9 (.float 10 .done))))))))))) (by kernel_rfl) (by kernel_rfl) (fun _ _ d _ _ h => by cases d <;> exact h) ⟨HB8.out.drew, KP8.out.drew⟩ ?_
        obtain ⟨d9, hdr, hbd⟩ : ∃ d, d = w7.drew ∧ Below w7.heap.size w7 d := ⟨_, rfl, (Below.refl _ _).drew⟩
        rw [← hdr]
        clear hdr
        have hbc := hbd
        have HB10 := Lib.hid (below_then HB8.out hbc (Nat.le_refl _))
        have HA10 := Lib.hid ((HA8.out.below hbc).lt)
        have P110 := Lib.hid ((P18.out.below hbc).lt)
        have KP10 := Lib.hid (KP8.out.after hbc)
        have R010 := Lib.hid ((R08.out.below hbc).lt)
        have R110 := Lib.hid ((R18.out.below hbc).lt)
        have RG10 := Lib.hid ((RG8.out.below hbc).lt)
        clear hbc HB8 HA8 P18 KP8 R08 R18 RG8 hbd
        repeat (first
          | (refine wpTr_fskip (by simp only [List.getElem?_toArray, List.getElem?_cons_zero, List.getElem?_cons_succ]; rfl) (by rfl) ?_
             simp only [Act.put, List.setIfInBounds_toArray, List.set_cons_zero, List.set_cons_succ])
          | (refine wpTr_float (v := ?_) (by simp only [List.getElem?_toArray, List.getElem?_cons_zero, List.getElem?_cons_succ]; rfl) (by rfl) (fun w' hS => ?_) ?_
             rotate_left
             (obtain ⟨hSb, hSk⟩ := hS; obtain ⟨e0, e1, e2⟩ := hSk.cells3; have hls := hSk.lt; have hq1 := (hSb.cell (p := ⟨b, o + k, none⟩) hb0x).trans HC1.out; have hq2 := (hSb.cell (p := ⟨b, o + j, none⟩) hb0x).trans HC2.out; go_simp; first | done | rfl)
             simp only [Act.put, List.setIfInBounds_toArray, List.set_cons_zero, List.set_cons_succ]))
        refine wpTr_one ?_
        refine stepTr_K (by simp only [List.getElem?_toArray, List.getElem?_cons_zero, List.getElem?_cons_succ]; rfl) (by rfl) (fun K hK => ?_)
        go_simp
        refine (find_any A1 A2 A3 A' c1 c2 c3 c' (pack14 l) xs _ P110.out ⟨by omega, by omega, by omega⟩ R010.out (Nat.le_trans l1 l2) (j : Int) true HF.out).mono ?_
        rintro e w11 ⟨rfl, hb⟩
        have hbc := hb
        have HB12 := Lib.hid (below_then HB10.out hbc (Nat.le_refl _))
        have HA12 := Lib.hid ((HA10.out.below hbc).lt)
        have P112 := Lib.hid ((P110.out.below hbc).lt)
        have KP12 := Lib.hid (KP10.out.after hbc)
        have R012 := Lib.hid ((R010.out.below hbc).lt)
        have R112 := Lib.hid ((R110.out.below hbc).lt)
        have RG12 := Lib.hid ((RG10.out.below hbc).lt)
        clear hbc HB10 HA10 P110 KP10 R010 R110 RG10 hb
        refine hK.out _ _ ⟨HB12.out, KP12.out⟩ ?_
        clear hK K
        try simp only [Act.put, List.setIfInBounds_toArray, List.set_cons_zero, List.set_cons_succ]
        repeat (first
          | (refine wpTr_fskip (by simp only [List.getElem?_toArray, List.getElem?_cons_zero, List.getElem?_cons_succ]; rfl) (by rfl) ?_
             simp only [Act.put, List.setIfInBounds_toArray, List.set_cons_zero, List.set_cons_succ])
          | (refine wpTr_float (v := ?_) (by simp only [List.getElem?_toArray, List.getElem?_cons_zero, List.getElem?_cons_succ]; rfl) (by rfl) (fun w' hS => ?_) ?_
             rotate_left
             (obtain ⟨hSb, hSk⟩ := hS; obtain ⟨e0, e1, e2⟩ := hSk.cells3; have hls := hSk.lt; have hq1 := (hSb.cell (p := ⟨b, o + k, none⟩) hb0x).trans HC1.out; have hq2 := (hSb.cell (p := ⟨b, o + j, none⟩) hb0x).trans HC2.out; go_simp; first | done | rfl)
             simp only [Act.put, List.setIfInBounds_toArray, List.set_cons_zero, List.set_cons_succ]))
        refine wpTr_done ?_
        go_wp2_with fail
        refine wp_region_tree (fun w' => Below w.heap.size w w' ∧ Blk w' tp 27 #[.slice A1 (pack14 l).C.length c1, .slice A2 (pack14 l).S.length c2, .slice A3 (pack14 l).L.length c3]) (.float 0 (.float 1 (.float 2 (.float 3 (.float 4 (.float 5 (.float 6 (.float 7 (.one 8 (.float 9 (.float 10 (.float 11 (.float 12 (.float 13 (.float 14 (.float 15 (.float 16 (.float 17 (.float 18 (.float 19 (.float 20 (.float 21 (.float 22 (.float 23 (.float 24 (.float 25 (.float 26 (.float 27 (.float 28 (.float 29 (.float 30 (.float 31 (.float 32 (.one 33 (.float 34 (.float 35 .done)))))))))))))))))))))))))))))))))))) (by kernel_rfl) (by kernel_rfl) (fun _ _ d _ _ h => by cases d <;> exact h) ⟨HB12.out.drew, KP12.out.drew⟩ ?_
        obtain ⟨d13, hdr, hbd⟩ : ∃ d, d = w11.drew ∧ Below w11.heap.size w11 d := ⟨_, rfl, (Below.refl _ _).drew⟩
        rw [← hdr]
        clear hdr
        have hbc := hbd
        have HB14 := Lib.hid (below_then HB12.out hbc (Nat.le_refl _))
        have HA14 := Lib.hid ((HA12.out.below hbc).lt)
        have P114 := Lib.hid ((P112.out.below hbc).lt)
        have KP14 := Lib.hid (KP12.out.after hbc)
        have R014 := Lib.hid ((R012.out.below hbc).lt)
        have R114 := Lib.hid ((R112.out.below hbc).lt)
        have RG14 := Lib.hid ((RG12.out.below hbc).lt)
        clear hbc HB12 HA12 P112 KP12 R012 R112 RG12 hbd
        repeat (first
          | (refine wpTr_fskip (by simp only [List.getElem?_toArray, List.getElem?_cons_zero, List.getElem?_cons_succ]; rfl) (by rfl) ?_
             simp only [Act.put, List.setIfInBounds_toArray, List.set_cons_zero, List.set_cons_succ])
          | (refine wpTr_float (v := ?_) (by simp only [List.getElem?_toArray, List.getElem?_cons_zero, List.getElem?_cons_succ]; rfl) (by rfl) (fun w' hS => ?_) ?_
             rotate_left
             (obtain ⟨hSb, hSk⟩ := hS; obtain ⟨e0, e1, e2⟩ := hSk.cells3; have hls := hSk.lt; have hq1 := (hSb.cell (p := ⟨b, o + k, none⟩) hb0x).trans HC1.out; have hq2 := (hSb.cell (p := ⟨b, o + j, none⟩) hb0x).trans HC2.out; go_simp; first | done | rfl)
             simp only [Act.put, List.setIfInBounds_toArray, List.set_cons_zero, List.set_cons_succ]))
        refine wpTr_one ?_
        refine stepTr_K (by simp only [List.getElem?_toArray, List.getElem?_cons_zero, List.getElem?_cons_succ]; rfl) (by rfl) (fun K hK => ?_)
        go_simp
        refine (requal_q D1 A' _ _ e1 c' xs xs _ RG14.out R014.out rfl rfl (Nat.le_trans x1 x2) (Nat.le_trans x1 x2) true (by simp)).mono ?_
        rintro e w15 ⟨rfl, hb⟩
        have hbc := hb
        have HB16 := Lib.hid (below_then HB14.out hbc (Nat.le_refl _))
        have HA16 := Lib.hid ((HA14.out.below hbc).lt)
        have P116 := Lib.hid ((P114.out.below hbc).lt)
        have KP16 := Lib.hid (KP14.out.after hbc)
        have R016 := Lib.hid ((R014.out.below hbc).lt)
        have R116 := Lib.hid ((R114.out.below hbc).lt)
        have RG16 := Lib.hid ((RG14.out.below hbc).lt)
        clear hbc HB14 HA14 P114 KP14 R014 R114 RG14 hb
        refine hK.out _ _ ⟨HB16.out, KP16.out⟩ ?_
        clear hK K
        try simp only [Act.put, List.setIfInBounds_toArray, List.set_cons_zero, List.set_cons_succ]
        repeat (first
          | (refine wpTr_fskip (by simp only [List.getElem?_toArray, List.getElem?_cons_zero, List.getElem?_cons_succ]; rfl) (by rfl) ?_
             simp only [Act.put, List.setIfInBounds_toArray, List.set_cons_zero, List.set_cons_succ])
          | (refine wpTr_float (v := ?_) (by simp only [List.getElem?_toArray, List.getElem?_cons_zero, List.getElem?_cons_succ]; rfl) (by rfl) (fun w' hS => ?_) ?_
             rotate_left
             (obtain ⟨hSb, hSk⟩ := hS; obtain ⟨e0, e1, e2⟩ := hSk.cells3; have hls := hSk.lt; have hq1 := (hSb.cell (p := ⟨b, o + k, none⟩) hb0x).trans HC1.out; have hq2 := (hSb.cell (p := ⟨b, o + j, none⟩) hb0x).trans HC2.out; go_simp; first | done | rfl)
             simp only [Act.put, List.setIfInBounds_toArray, List.set_cons_zero, List.set_cons_succ]))
        refine wpTr_one ?_
        refine stepTr_K (by simp only [List.getElem?_toArray, List.getElem?_cons_zero, List.getElem?_cons_succ]; rfl) (by rfl) (fun K hK => ?_)
        go_simp
        refine (requal_q B' A' _ _ d' c' xs xs _ R116.out R016.out rfl rfl (Nat.le_trans x1 x2) (Nat.le_trans x1 x2) true (by simp)).mono ?_
        rintro e w17 ⟨rfl, hb⟩
        have hbc := hb
        have HB18 := Lib.hid (below_then HB16.out hbc (Nat.le_refl _))
        have HA18 := Lib.hid ((HA16.out.below hbc).lt)
        have P118 := Lib.hid ((P116.out.below hbc).lt)
        have KP18 := Lib.hid (KP16.out.after hbc)
        have R018 := Lib.hid ((R016.out.below hbc).lt)
        have R118 := Lib.hid ((R116.out.below hbc).lt)
        have RG18 := Lib.hid ((RG16.out.below hbc).lt)
        clear hbc HB16 HA16 P116 KP16 R016 R116 RG16 hb
        refine hK.out _ _ ⟨HB18.out, KP18.out⟩ ?_
        clear hK K
        try simp only [Act.put, List.setIfInBounds_toArray, List.set_cons_zero, List.set_cons_succ]
        repeat (first
          | (refine wpTr_fskip (by simp only [List.getElem?_toArray, List.getElem?_cons_zero, List.getElem?_cons_succ]; rfl) (by rfl) ?_
             simp only [Act.put, List.setIfInBounds_toArray, List.set_cons_zero, List.set_cons_succ])
          | (refine wpTr_float (v := ?_) (by simp only [List.getElem?_toArray, List.getElem?_cons_zero, List.getElem?_cons_succ]; rfl) (by rfl) (fun w' hS => ?_) ?_
             rotate_left
             (obtain ⟨hSb, hSk⟩ := hS; obtain ⟨e0, e1, e2⟩ := hSk.cells3; have hls := hSk.lt; have hq1 := (hSb.cell (p := ⟨b, o + k, none⟩) hb0x).trans HC1.out; have hq2 := (hSb.cell (p := ⟨b, o + j, none⟩) hb0x).trans HC2.out; go_simp; first | done | rfl)
             simp only [Act.put, List.setIfInBounds_toArray, List.set_cons_zero, List.set_cons_succ]))
        refine wpTr_done ?_
        go_wp2
        go_roundw
        case rel => exact ⟨k + 1, by omega, by go_num, HB18, HA18, P118, KP18⟩
        case measure => simp [intOf]; omega
      · have HG : Hid (get14 (pack14 l) (l.length : Int) = ([], false)) := get_out (by rw [Z2.out]; omega)
        have HV := Lib.hid (pack_facts l).1
        obtain ⟨eKP0, eKP1, eKP2⟩ := KP.out.cells3
        have lKP := KP.out.lt
        go_wp2_with fail
        clear eKP0 eKP1 eKP2 lKP
        refine (get_any A1 A2 A3 c1 c2 c3 (pack14 l) _ _ P1.out ⟨by omega, by omega, by omega⟩ [] false HG.out).mono ?_
        rintro e w19 ⟨D1, e1, rfl, x1, x2, hr, hb⟩
        have hbc := hb
        have HB20 := Lib.hid (below_then HB.out hbc (Nat.le_refl _))
        have HA20 := Lib.hid ((HA.out.below hbc).lt)
        have P120 := Lib.hid ((P1.out.below hbc).lt)
        have KP20 := Lib.hid (KP.out.after hbc)
        clear hbc HB HA P1 KP hb
        obtain ⟨eKP0, eKP1, eKP2⟩ := KP20.out.cells3
        have lKP := KP20.out.lt
        go_wp2_with fail
        clear eKP0 eKP1 eKP2 lKP
        refine (vld_calls A1 A2 A3 c1 c2 c3 (pack14 l) _ P120.out ⟨by omega, by omega, by omega⟩ true HV.out).mono ?_
        rintro e w21 ⟨rfl, hb⟩
        have hbc := hb
        have HB22 := Lib.hid (below_then HB20.out hbc (Nat.le_refl _))
        have HA22 := Lib.hid ((HA20.out.below hbc).lt)
        have P122 := Lib.hid ((P120.out.below hbc).lt)
        have KP22 := Lib.hid (KP20.out.after hbc)
        clear hbc HB20 HA20 P120 KP20 hb
        go_wp2_with fail
        refine (alive_any _).mono ?_
        rintro e w23 ⟨rfl, hb⟩
        have hbc := hb
        have HB24 := Lib.hid (below_then HB22.out hbc (Nat.le_refl _))
        have HA24 := Lib.hid ((HA22.out.below hbc).lt)
        have P124 := Lib.hid ((P122.out.below hbc).lt)
        have KP24 := Lib.hid (KP22.out.after hbc)
        clear hbc HB22 HA22 P122 KP22 hb
        go_wp2
        go_ret
        exact ⟨rfl, HB24.out⟩
theorem own : ownKnob Try.prog.godebug = none := by kernel_rfl
theorem laidOut : laidOutB Try.prog = true := by kernel_rfl
set_option maxRecDepth 100000 in
theorem lifted (os : Os) (started : os.Started) (H : Type) (enc : TypeId × Value → H) :
    ReturnsInHanded {} Try.checked os 9 .any (Rows.seqpoolBackSpec.pre6 enc Try.prog Try.f9 Rows.seqpoolBackRow.domain false) (Rows.seqpoolBackSpec.post enc Try.prog Try.f9 false true false false) := by
  refine returnsInHanded_of_change (C := Try.checked) own started (by kernel_rfl) Try.func9
    (ChangeSpec.witness6 (enc := enc) (C := Try.checked) false ⟨#[], #[.slice none 0 0], []⟩ 8 (by kernel_rfl) (by kernel_rfl) (by kernel_rfl) (by kernel_rfl)) ?_
  intro W base args ds gs before hval0 hW hcnd _
  have hval : ∀ (j : Nat) t v, Try.f9.params[j]? = some t → args[j]? = some v → Value.okWide Try.prog W .any base t v := hval0
  have hW' := hW
  obtain ⟨p, q, hA0, hV, rfl, hfz, hnd⟩ := hW
  have hA : DataW.TrodAll enc Try.prog W 0 (fun _ => true) true Try.f9.params.toList args.toList ds p := hA0
  rw [Try.params9] at hA hval
  obtain ⟨v0, vs0, d0, ds0, p0, q0, hargs, rfl, rfl, h0, r0⟩ := trodAll_cons hA
  obtain ⟨rfl, rfl, rfl⟩ := trodAll_nil r0
  obtain rfl : args = #[v0] := by cases args; simp_all
  obtain ⟨rfl, rfl⟩ := trodVars_none hV
  obtain ⟨ad0, le0, ca0, rfl⟩ := okWide_slice Try.underlying22 (hval 0 22 v0 rfl rfl)
  obtain ⟨fu0, hf0⟩ := h0
  obtain ⟨A0, c0, xs0, hv0, hc0, hm0, hR0⟩ := open_rows2 (v := .slice ad0 le0 ca0) Try.underlying22 (by kernel_rfl) Try.underlying25 Try.underlying3 (by kernel_rfl) hf0
  injection hv0 with ea0 eb0 ec0
  subst ea0 eb0 ec0
  refine (walk W ad0 ca0 xs0 hc0 hm0 hR0).mono fun e W' ⟨he, hb⟩ => ⟨_, he, ?_⟩
  exact law_post laidOut (by rw [Try.params9]; exact of_decide_eq_true (by kernel_rfl)) rfl rfl Try.underlying4 hW' rfl hb
theorem holds : Rows.SeqpoolBackSaid :=
  OpenClaim.holds_of_wide 9 Try.f9 rfl rfl rfl rfl rfl rfl rfl ⟨rfl, rfl, rfl, rfl, rfl⟩ rfl rfl rfl rfl rfl (by kernel_rfl) Try.func9 (by kernel_rfl)
    (of_decide_eq_true (by kernel_rfl)) (by unfold Func.isWrapper; first | (rw [if_pos (by decide +kernel)]; kernel_rfl) | (rw [if_neg (by decide +kernel)]; exact ⟨rfl, rfl⟩))
    (fun os started H enc _ => lifted os started H enc)
end Go.Proofs.Yteobffcnfigilaa.LBack
namespace Go.Proofs.Yteobffcnfigilaa
theorem seqpoolBack_holds : Rows.SeqpoolBackSaid := LBack.holds
end Go.Proofs.Yteobffcnfigilaa
