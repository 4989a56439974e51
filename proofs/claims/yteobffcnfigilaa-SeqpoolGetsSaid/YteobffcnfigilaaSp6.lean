/-
  seqpool.Add: a walk, for any pool.
-/
import Derived.Test.YteobffcnfigilaaProg
import Derived.Test.YteobffcnfigilaaBase
import Derived.Test.YteobffcnfigilaaTree
import Derived.Test.YteobffcnfigilaaSp5
import Derived.WalkKit
import Derived.KernelRfl
import Derived.Outline
namespace Go.Proofs.Yteobffcnfigilaa
open Go.RowKit Go.UtYteobffcnfigilaa
attribute [local go_sem high] cut_l cut_lh cut_lhm cutA_zero
attribute [local go_sem 500] cut_any
def RetPoolN (w : World) (p : Pl) (n : Nat) (e : Ending) (w' : World) : Prop :=
  ∃ A1 c1 A2 c2 A3 c3, e = .returned (.tuple #[.agg #[.slice A1 p.C.length c1, .slice A2 p.S.length c2, .slice A3 p.L.length c3], .int .i64 (n : Int)]) ∧ PlAt w' w'.heap.size A1 c1 A2 c2 A3 c3 p ∧ Below w.heap.size w w'
theorem copied_q (A1 : Option Addr) (n1 c1 : Nat) (xs : List Int) (w : World) (h1 : Row w w.heap.size A1 (ints xs)) (e1 : xs.length = n1) (hl : n1 ≤ 65536) :
    Calls Try.prog 27 #[.slice A1 n1 c1] w (RetI w xs) := copied_n A1 n1 c1 _ xs w h1 e1 (Nat.le_refl _) hl
theorem Blk.free0 {w : World} {g : Nat} {t : TypeId} {cs : Array Value} (h : Blk w g t cs) : w.frozen? ⟨g, 0, none⟩ = false ∧ w.frozen? ⟨g, 1, none⟩ = false ∧ w.frozen? ⟨g, 2, none⟩ = false := h.free3
set_option maxHeartbeats 4000000 in
theorem addP_yes (C S L A : Option Addr) (cC cS cL c : Nat) (p : Pl) (seq : List Int) (w : World) (hp : PlAt w w.heap.size C cC S cS L cL p) (hf : Fine p) (hq : Row w w.heap.size A (ints seq)) (lc : seq.length ≤ c) (lm : c ≤ maxLen) (hl : seq.length ≤ 5000) (hv : vld14 p = true) :
    Calls Try.prog 17 #[.agg #[.slice C p.C.length cC, .slice S p.S.length cS, .slice L p.L.length cL], .slice A seq.length c] w (RetPoolN w (add14 p seq) p.S.length) := by
  have HV := Lib.hid hv
  clear hv
  have HS0 := Lib.hid hp
  have HQ := Lib.hid hq
  have HF := Lib.hid hf
  obtain ⟨f1, f2, f3⟩ := hf
  clear hp hq
  go_enter Try.func17, Try.ntmps17
  go_wp2_with fail
  obtain ⟨v, hv, bX, bY, bB⟩ : ∃ v, v = (w.alloc (.cells #[.slice C p.C.length cC, .slice S p.S.length cS, .slice L p.L.length cL] 27)).alloc (.cells #[.slice none 0 0, .slice none 0 0, .slice none 0 0] 27) ∧
      Blk v w.heap.size 27 #[.slice C p.C.length cC, .slice S p.S.length cS, .slice L p.L.length cL] ∧ Blk v (w.heap.size + 1) 27 #[.slice none 0 0, .slice none 0 0, .slice none 0 0] ∧ Below w.heap.size w v :=
    ⟨_, rfl, (Blk.new _ _ _).alloc _, Blk.at_new (by simp), ((Below.refl _ _).alloc (Nat.le_refl _) _).alloc (by simp) _⟩
  rw [← hv]
  have HX0 := Lib.hid bX
  have HY0 := Lib.hid bY
  have HB0 := Lib.hid bB
  have HP0 := Lib.hid (HS0.out.below bB).lt
  have HT0 := Lib.hid (HQ.out.below bB).lt
  clear hv bX bY bB HS0 HQ
  refine (vld_calls C S L cC cS cL p _ HP0.out HF.out _ HV.out).mono ?_
  rintro e v1 ⟨rfl, hb1⟩
  have hbc := hb1
  have HX1 := Lib.hid (HX0.out.after hbc)
  have HY1 := Lib.hid (HY0.out.after hbc)
  have HB1 := Lib.hid (below_then HB0.out hbc (Nat.le_refl _))
  have HP1 := Lib.hid ((HP0.out.below hbc).lt)
  have HT1 := Lib.hid ((HT0.out.below hbc).lt)
  clear hbc HX0 HY0 HB0 HP0 HT0 hb1
  go_wp2_with fail
  refine wp_region_tree (fun w' => Below w.heap.size w w' ∧ Blk w' w.heap.size 27 #[.slice C p.C.length cC, .slice S p.S.length cS, .slice L p.L.length cL]) (.float 0 (.float 1 (.float 3 (.float 4 (.float 6 (.float 7 (.two 2 (.two 5 (.two 8 (.float 9 (.one 10 (.one 11 .done))) 10 (.one 8 (.float 9 (.one 11 .done)))) 10 (.one 5 (.one 8 (.float 9 (.one 11 .done))))) 10 (.one 2 (.one 5 (.one 8 (.float 9 (.one 11 .done)))))))))))) (by kernel_rfl) (by kernel_rfl) (fun _ _ d _ _ h => by cases d <;> exact h) ⟨HB1.out.drew, HX1.out.drew⟩ ?_
  obtain ⟨d2, hdr, hbd⟩ : ∃ d, d = v1.drew ∧ Below v1.heap.size v1 d := ⟨_, rfl, (Below.refl _ _).drew⟩
  rw [← hdr]
  clear hdr
  have hbc := hbd
  have HX3 := Lib.hid (HX1.out.after hbc)
  have HY3 := Lib.hid (HY1.out.after hbc)
  have HB3 := Lib.hid (below_then HB1.out hbc (Nat.le_refl _))
  have HP3 := Lib.hid ((HP1.out.below hbc).lt)
  have HT3 := Lib.hid ((HT1.out.below hbc).lt)
  clear hbc HX1 HY1 HB1 HP1 HT1 hbd
  repeat (first
    | (refine wpTr_fskip (by simp only [List.getElem?_toArray, List.getElem?_cons_zero, List.getElem?_cons_succ]; rfl) (by rfl) ?_
       simp only [Act.put, List.setIfInBounds_toArray, List.set_cons_zero, List.set_cons_succ])
    | (refine wpTr_float (v := ?_) (by simp only [List.getElem?_toArray, List.getElem?_cons_zero, List.getElem?_cons_succ]; rfl) (by rfl) (fun w' hS => ?_) ?_
       rotate_left
       (obtain ⟨hSb, hSk⟩ := hS; obtain ⟨e0, e1, e2⟩ := hSk.cells3; have hls := hSk.lt; go_simp; first | done | rfl)
       simp only [Act.put, List.setIfInBounds_toArray, List.set_cons_zero, List.set_cons_succ]))
  refine wpTr_two ?_ ?_
  · refine stepTr_K (by simp only [List.getElem?_toArray, List.getElem?_cons_zero, List.getElem?_cons_succ]; rfl) (by rfl) (fun K hK => ?_)
    go_simp
    refine (copied_q C p.C.length cC p.C _ HP3.out.r1 rfl (by first | omega | simp)).mono ?_
    rintro e a4 ⟨D0, d0, rfl, x0, m0, g3, g4⟩
    have hbc := g4
    have HX5 := Lib.hid (HX3.out.after hbc)
    have HY5 := Lib.hid (HY3.out.after hbc)
    have HB5 := Lib.hid (below_then HB3.out hbc (Nat.le_refl _))
    have HP5 := Lib.hid ((HP3.out.below hbc).lt)
    have HT5 := Lib.hid ((HT3.out.below hbc).lt)
    have RD05 := Lib.hid (g3)
    clear hbc HX3 HY3 HB3 HP3 HT3 g3 g4
    refine hK.out _ _ ⟨HB5.out, HX5.out⟩ ?_
    clear hK K
    try simp only [Act.put, List.setIfInBounds_toArray, List.set_cons_zero, List.set_cons_succ]
    refine wpTr_two ?_ ?_
    · refine stepTr_K (by simp only [List.getElem?_toArray, List.getElem?_cons_zero, List.getElem?_cons_succ]; rfl) (by rfl) (fun K hK => ?_)
      go_simp
      refine (copied_q S p.S.length cS p.S _ HP5.out.r2 rfl (by first | omega | simp)).mono ?_
      rintro e a6 ⟨D1, d1, rfl, x1, m1, g3, g4⟩
      have hbc := g4
      have HX7 := Lib.hid (HX5.out.after hbc)
      have HY7 := Lib.hid (HY5.out.after hbc)
      have HB7 := Lib.hid (below_then HB5.out hbc (Nat.le_refl _))
      have HP7 := Lib.hid ((HP5.out.below hbc).lt)
      have HT7 := Lib.hid ((HT5.out.below hbc).lt)
      have RD07 := Lib.hid ((RD05.out.below hbc).lt)
      have RD17 := Lib.hid (g3)
      clear hbc HX5 HY5 HB5 HP5 HT5 RD05 g3 g4
      refine hK.out _ _ ⟨HB7.out, HX7.out⟩ ?_
      clear hK K
      try simp only [Act.put, List.setIfInBounds_toArray, List.set_cons_zero, List.set_cons_succ]
      refine wpTr_two ?_ ?_
      · refine stepTr_K (by simp only [List.getElem?_toArray, List.getElem?_cons_zero, List.getElem?_cons_succ]; rfl) (by rfl) (fun K hK => ?_)
        go_simp
        refine (copied_q L p.L.length cL p.L _ HP7.out.r3 rfl (by first | omega | simp)).mono ?_
        rintro e a8 ⟨D2, d2, rfl, x2, m2, g3, g4⟩
        have hbc := g4
        have HX9 := Lib.hid (HX7.out.after hbc)
        have HY9 := Lib.hid (HY7.out.after hbc)
        have HB9 := Lib.hid (below_then HB7.out hbc (Nat.le_refl _))
        have HP9 := Lib.hid ((HP7.out.below hbc).lt)
        have HT9 := Lib.hid ((HT7.out.below hbc).lt)
        have RD09 := Lib.hid ((RD07.out.below hbc).lt)
        have RD19 := Lib.hid ((RD17.out.below hbc).lt)
        have RD29 := Lib.hid (g3)
        clear hbc HX7 HY7 HB7 HP7 HT7 RD07 RD17 g3 g4
        refine hK.out _ _ ⟨HB9.out, HX9.out⟩ ?_
        clear hK K
        try simp only [Act.put, List.setIfInBounds_toArray, List.set_cons_zero, List.set_cons_succ]
        repeat (first
          | (refine wpTr_fskip (by simp only [List.getElem?_toArray, List.getElem?_cons_zero, List.getElem?_cons_succ]; rfl) (by rfl) ?_
             simp only [Act.put, List.setIfInBounds_toArray, List.set_cons_zero, List.set_cons_succ])
          | (refine wpTr_float (v := ?_) (by simp only [List.getElem?_toArray, List.getElem?_cons_zero, List.getElem?_cons_succ]; rfl) (by rfl) (fun w' hS => ?_) ?_
             rotate_left
             (obtain ⟨hSb, hSk⟩ := hS; obtain ⟨e0, e1, e2⟩ := hSk.cells3; have hls := hSk.lt; go_simp; first | done | rfl)
             simp only [Act.put, List.setIfInBounds_toArray, List.set_cons_zero, List.set_cons_succ]))
        refine wpTr_one ?_
        refine stepTr_K (by simp only [List.getElem?_toArray, List.getElem?_cons_zero, List.getElem?_cons_succ]; rfl) (by rfl) (fun K hK => ?_)
        go_simp
        obtain ⟨b10, hv, hbb, hbk⟩ : ∃ v, v = a8.alloc (.cells #[.slice none 0 0, .slice none 0 0, .slice none 0 0] 27) ∧ Below a8.heap.size a8 v ∧ Blk v a8.heap.size 27 #[.slice none 0 0, .slice none 0 0, .slice none 0 0] := ⟨_, rfl, (Below.refl _ _).alloc (Nat.le_refl _) _, Blk.new _ _ _⟩
        rw [← hv]
        clear hv
        have hge := HY9.out.lt
        obtain ⟨t6, ht6⟩ : ∃ t6, t6 = a8.heap.size := ⟨_, rfl⟩
        rw [← ht6] at hbk ⊢
        have h6 : w.heap.size + 1 < t6 := by omega
        have hbc := hbb
        have HX11 := Lib.hid (HX9.out.after hbc)
        have HY11 := Lib.hid (HY9.out.after hbc)
        have HB11 := Lib.hid (below_then HB9.out hbc (Nat.le_refl _))
        have HP11 := Lib.hid ((HP9.out.below hbc).lt)
        have HT11 := Lib.hid ((HT9.out.below hbc).lt)
        have RD011 := Lib.hid ((RD09.out.below hbc).lt)
        have RD111 := Lib.hid ((RD19.out.below hbc).lt)
        have RD211 := Lib.hid ((RD29.out.below hbc).lt)
        have HZ11 := Lib.hid (hbk)
        clear hbc HX9 HY9 HB9 HP9 HT9 RD09 RD19 RD29 hbb hbk hge ht6
        refine hK.out _ _ ⟨HB11.out, HX11.out⟩ ?_
        clear hK K
        try simp only [Act.put, List.setIfInBounds_toArray, List.set_cons_zero, List.set_cons_succ]
        refine wpTr_one ?_
        refine stepTr_K (by simp only [List.getElem?_toArray, List.getElem?_cons_zero, List.getElem?_cons_succ]; rfl) (by rfl) (fun K hK => ?_)
        obtain ⟨y0, y1, y2⟩ := HZ11.out.cells3
        obtain ⟨z0, z1, z2⟩ := HZ11.out.free3
        have hlz := HZ11.out.lt
        go_simp
        clear y0 y1 y2 z0 z1 z2
        refine hK.out _ _ ⟨below_set3 HB11.out (by omega) _ _ _, HX11.out.far3 (by omega) _ _ _⟩ ?_
        clear hK K
        try simp only [Act.put, List.setIfInBounds_toArray, List.set_cons_zero, List.set_cons_succ]
        refine wpTr_done ?_
        obtain ⟨s12, hv, bZ, bX, bY, bB, bP, bT⟩ : ∃ v, v = (((b10.setCell ⟨t6, 0, none⟩ (.slice D0 p.C.length d0)).setCell ⟨t6, 1, none⟩ (.slice D1 p.S.length d1)).setCell ⟨t6, 2, none⟩ (.slice D2 p.L.length d2)) ∧ Blk v t6 27 #[.slice D0 p.C.length d0, .slice D1 p.S.length d1, .slice D2 p.L.length d2] ∧ Blk v w.heap.size 27 #[.slice C p.C.length cC, .slice S p.S.length cS, .slice L p.L.length cL] ∧ Blk v (w.heap.size + 1) 27 #[.slice none 0 0, .slice none 0 0, .slice none 0 0] ∧ Below w.heap.size w v ∧ PlAt v v.heap.size D0 d0 D1 d1 D2 d2 p ∧ Row v v.heap.size A (ints seq) :=
          ⟨_, rfl, Blk.set3 HZ11.out, HX11.out.far3 (by omega) _ _ _, HY11.out.far3 (by omega) _ _ _, below_set3 HB11.out (by omega) _ _ _, PlAt.apart3 ⟨x0, m0, RD011.out, x1, m1, RD111.out, x2, m2, RD211.out⟩ HZ11.out _ _ _, by rw [size3]; exact Row.apart3 HT11.out HZ11.out _ _ _⟩
        try simp only [List.length_nil] at hv bZ
        try rw [← hv]
        clear hv HX11 HY11 HB11 HP11 HT11 RD011 RD111 RD211 HZ11
        have HZ13 := Lib.hid bZ
        have HX13 := Lib.hid bX
        have HY13 := Lib.hid bY
        have HB13 := Lib.hid bB
        have HP13 := Lib.hid bP
        have HT13 := Lib.hid bT
        clear bZ bX bY bB bP bT
        go_wp2_with fail
        refine wp_region_tree (fun w' => Below w.heap.size w w' ∧ Blk w' w.heap.size 27 #[.slice C p.C.length cC, .slice S p.S.length cS, .slice L p.L.length cL] ∧ Blk w' t6 27 #[.slice D0 p.C.length d0, .slice D1 p.S.length d1, .slice D2 p.L.length d2]) (.float 0 (.float 1 (.float 3 (.float 4 (.float 5 (.one 2 (.one 6 (.float 7 .done)))))))) (by kernel_rfl) (by kernel_rfl) (fun _ _ d _ _ h => by cases d <;> exact h) ⟨HB13.out.drew, HX13.out.drew, HZ13.out.drew⟩ ?_
        obtain ⟨d14, hdr, hbd⟩ : ∃ d, d = s12.drew ∧ Below s12.heap.size s12 d := ⟨_, rfl, (Below.refl _ _).drew⟩
        rw [← hdr]
        clear hdr
        have hbc := hbd
        have HZ15 := Lib.hid (HZ13.out.after hbc)
        have HX15 := Lib.hid (HX13.out.after hbc)
        have HY15 := Lib.hid (HY13.out.after hbc)
        have HB15 := Lib.hid (below_then HB13.out hbc (Nat.le_refl _))
        have HP15 := Lib.hid ((HP13.out.below hbc).lt)
        have HT15 := Lib.hid ((HT13.out.below hbc).lt)
        clear hbc HZ13 HX13 HY13 HB13 HP13 HT13 hbd
        repeat (first
          | (refine wpTr_fskip (by simp only [List.getElem?_toArray, List.getElem?_cons_zero, List.getElem?_cons_succ]; rfl) (by rfl) ?_
             simp only [Act.put, List.setIfInBounds_toArray, List.set_cons_zero, List.set_cons_succ])
          | (refine wpTr_float (v := ?_) (by simp only [List.getElem?_toArray, List.getElem?_cons_zero, List.getElem?_cons_succ]; rfl) (by rfl) (fun w' hS => ?_) ?_
             rotate_left
             (obtain ⟨hSb, hSk, hSz⟩ := hS; obtain ⟨e0, e1, e2⟩ := hSk.cells3; obtain ⟨e3, e4, e5⟩ := hSz.cells3; have hls := hSk.lt; have hlz := hSz.lt; go_simp; first | done | rfl)
             simp only [Act.put, List.setIfInBounds_toArray, List.set_cons_zero, List.set_cons_succ]))
        refine wpTr_one ?_
        refine stepTr_K (by simp only [List.getElem?_toArray, List.getElem?_cons_zero, List.getElem?_cons_succ]; rfl) (by rfl) (fun K hK => ?_)
        go_simp
        refine (add_any D0 D1 D2 A d0 d1 d2 c _ p seq _ HP15.out HT15.out (Nat.le_refl _) lc lm (by omega) (by omega) (by omega)).mono ?_
        rintro e a16 ⟨B1, b1, B2, b2, B3, b3, rfl, g1, g2⟩
        have hbc := g2
        have HZ17 := Lib.hid (HZ15.out.after hbc)
        have HX17 := Lib.hid (HX15.out.after hbc)
        have HY17 := Lib.hid (HY15.out.after hbc)
        have HB17 := Lib.hid (below_then HB15.out hbc (Nat.le_refl _))
        have HP17 := Lib.hid ((HP15.out.below hbc).lt)
        have HT17 := Lib.hid ((HT15.out.below hbc).lt)
        have HR17 := Lib.hid (g1)
        clear hbc HZ15 HX15 HY15 HB15 HP15 HT15 g1 g2
        refine hK.out _ _ ⟨HB17.out, HX17.out, HZ17.out⟩ ?_
        clear hK K
        try simp only [Act.put, List.setIfInBounds_toArray, List.set_cons_zero, List.set_cons_succ]
        refine wpTr_one ?_
        refine stepTr_K (by simp only [List.getElem?_toArray, List.getElem?_cons_zero, List.getElem?_cons_succ]; rfl) (by rfl) (fun K hK => ?_)
        obtain ⟨y0, y1, y2⟩ := HY17.out.cells3
        obtain ⟨z0, z1, z2⟩ := HY17.out.free3
        have hly := HY17.out.lt
        go_simp
        clear y0 y1 y2 z0 z1 z2
        refine hK.out _ _ ⟨below_set3 HB17.out (by omega) _ _ _, HX17.out.far3 (by omega) _ _ _, HZ17.out.far3 (by omega) _ _ _⟩ ?_
        clear hK K
        try simp only [Act.put, List.setIfInBounds_toArray, List.set_cons_zero, List.set_cons_succ]
        repeat (first
          | (refine wpTr_fskip (by simp only [List.getElem?_toArray, List.getElem?_cons_zero, List.getElem?_cons_succ]; rfl) (by rfl) ?_
             simp only [Act.put, List.setIfInBounds_toArray, List.set_cons_zero, List.set_cons_succ])
          | (refine wpTr_float (v := ?_) (by simp only [List.getElem?_toArray, List.getElem?_cons_zero, List.getElem?_cons_succ]; rfl) (by rfl) (fun w' hS => ?_) ?_
             rotate_left
             (obtain ⟨hSb, hSk, hSz⟩ := hS; obtain ⟨e0, e1, e2⟩ := hSk.cells3; obtain ⟨e3, e4, e5⟩ := hSz.cells3; have hls := hSk.lt; have hlz := hSz.lt; go_simp; first | done | rfl)
             simp only [Act.put, List.setIfInBounds_toArray, List.set_cons_zero, List.set_cons_succ]))
        refine wpTr_done ?_
        go_wp2
        obtain ⟨q0, q1, q2⟩ := (Blk.set3 (a := .slice B1 (add14 p seq).C.length b1) (b := .slice B2 (add14 p seq).S.length b2) (c := .slice B3 (add14 p seq).L.length b3) HY17.out).cells3
        refine bodyPost_ret (v := .tuple #[.agg #[.slice B1 (add14 p seq).C.length b1, .slice B2 (add14 p seq).S.length b2, .slice B3 (add14 p seq).L.length b3], .int .i64 (p.S.length : Int)]) (by simp [results, Try.results17, go_sem, q0, q1, q2]) rfl ?_
        exact ⟨B1, b1, B2, b2, B3, b3, rfl, PlAt.apart3 HR17.out HY17.out _ _ _, below_set3 HB17.out (by omega) _ _ _⟩
      · refine stepTr_K (by simp only [List.getElem?_toArray, List.getElem?_cons_zero, List.getElem?_cons_succ]; rfl) (by rfl) (fun K hK => ?_)
        go_simp
        obtain ⟨b18, hv, hbb, hbk⟩ : ∃ v, v = a6.alloc (.cells #[.slice none 0 0, .slice none 0 0, .slice none 0 0] 27) ∧ Below a6.heap.size a6 v ∧ Blk v a6.heap.size 27 #[.slice none 0 0, .slice none 0 0, .slice none 0 0] := ⟨_, rfl, (Below.refl _ _).alloc (Nat.le_refl _) _, Blk.new _ _ _⟩
        rw [← hv]
        clear hv
        have hge := HY7.out.lt
        obtain ⟨t6, ht6⟩ : ∃ t6, t6 = a6.heap.size := ⟨_, rfl⟩
        rw [← ht6] at hbk ⊢
        have h6 : w.heap.size + 1 < t6 := by omega
        have hbc := hbb
        have HX19 := Lib.hid (HX7.out.after hbc)
        have HY19 := Lib.hid (HY7.out.after hbc)
        have HB19 := Lib.hid (below_then HB7.out hbc (Nat.le_refl _))
        have HP19 := Lib.hid ((HP7.out.below hbc).lt)
        have HT19 := Lib.hid ((HT7.out.below hbc).lt)
        have RD019 := Lib.hid ((RD07.out.below hbc).lt)
        have RD119 := Lib.hid ((RD17.out.below hbc).lt)
        have HZ19 := Lib.hid (hbk)
        clear hbc HX7 HY7 HB7 HP7 HT7 RD07 RD17 hbb hbk hge ht6
        refine hK.out _ _ ⟨HB19.out, HX19.out⟩ ?_
        clear hK K
        try simp only [Act.put, List.setIfInBounds_toArray, List.set_cons_zero, List.set_cons_succ]
        refine wpTr_one ?_
        refine stepTr_K (by simp only [List.getElem?_toArray, List.getElem?_cons_zero, List.getElem?_cons_succ]; rfl) (by rfl) (fun K hK => ?_)
        go_simp
        refine (copied_q L p.L.length cL p.L _ HP19.out.r3 rfl (by first | omega | simp)).mono ?_
        rintro e a20 ⟨D2, d2, rfl, x2, m2, g3, g4⟩
        have hbc := g4
        have HX21 := Lib.hid (HX19.out.after hbc)
        have HY21 := Lib.hid (HY19.out.after hbc)
        have HB21 := Lib.hid (below_then HB19.out hbc (Nat.le_refl _))
        have HP21 := Lib.hid ((HP19.out.below hbc).lt)
        have HT21 := Lib.hid ((HT19.out.below hbc).lt)
        have RD021 := Lib.hid ((RD019.out.below hbc).lt)
        have RD121 := Lib.hid ((RD119.out.below hbc).lt)
        have HZ21 := Lib.hid (HZ19.out.after hbc)
        have RD221 := Lib.hid (g3)
        clear hbc HX19 HY19 HB19 HP19 HT19 RD019 RD119 HZ19 g3 g4
        refine hK.out _ _ ⟨HB21.out, HX21.out⟩ ?_
        clear hK K
        try simp only [Act.put, List.setIfInBounds_toArray, List.set_cons_zero, List.set_cons_succ]
        repeat (first
          | (refine wpTr_fskip (by simp only [List.getElem?_toArray, List.getElem?_cons_zero, List.getElem?_cons_succ]; rfl) (by rfl) ?_
             simp only [Act.put, List.setIfInBounds_toArray, List.set_cons_zero, List.set_cons_succ])
          | (refine wpTr_float (v := ?_) (by simp only [List.getElem?_toArray, List.getElem?_cons_zero, List.getElem?_cons_succ]; rfl) (by rfl) (fun w' hS => ?_) ?_
             rotate_left
             (obtain ⟨hSb, hSk⟩ := hS; obtain ⟨e0, e1, e2⟩ := hSk.cells3; have hls := hSk.lt; go_simp; first | done | rfl)
             simp only [Act.put, List.setIfInBounds_toArray, List.set_cons_zero, List.set_cons_succ]))
        refine wpTr_one ?_
        refine stepTr_K (by simp only [List.getElem?_toArray, List.getElem?_cons_zero, List.getElem?_cons_succ]; rfl) (by rfl) (fun K hK => ?_)
        obtain ⟨y0, y1, y2⟩ := HZ21.out.cells3
        obtain ⟨z0, z1, z2⟩ := HZ21.out.free3
        have hlz := HZ21.out.lt
        go_simp
        clear y0 y1 y2 z0 z1 z2
        refine hK.out _ _ ⟨below_set3 HB21.out (by omega) _ _ _, HX21.out.far3 (by omega) _ _ _⟩ ?_
        clear hK K
        try simp only [Act.put, List.setIfInBounds_toArray, List.set_cons_zero, List.set_cons_succ]
        refine wpTr_done ?_
        obtain ⟨s22, hv, bZ, bX, bY, bB, bP, bT⟩ : ∃ v, v = (((a20.setCell ⟨t6, 0, none⟩ (.slice D0 p.C.length d0)).setCell ⟨t6, 1, none⟩ (.slice D1 p.S.length d1)).setCell ⟨t6, 2, none⟩ (.slice D2 p.L.length d2)) ∧ Blk v t6 27 #[.slice D0 p.C.length d0, .slice D1 p.S.length d1, .slice D2 p.L.length d2] ∧ Blk v w.heap.size 27 #[.slice C p.C.length cC, .slice S p.S.length cS, .slice L p.L.length cL] ∧ Blk v (w.heap.size + 1) 27 #[.slice none 0 0, .slice none 0 0, .slice none 0 0] ∧ Below w.heap.size w v ∧ PlAt v v.heap.size D0 d0 D1 d1 D2 d2 p ∧ Row v v.heap.size A (ints seq) :=
          ⟨_, rfl, Blk.set3 HZ21.out, HX21.out.far3 (by omega) _ _ _, HY21.out.far3 (by omega) _ _ _, below_set3 HB21.out (by omega) _ _ _, PlAt.apart3 ⟨x0, m0, RD021.out, x1, m1, RD121.out, x2, m2, RD221.out⟩ HZ21.out _ _ _, by rw [size3]; exact Row.apart3 HT21.out HZ21.out _ _ _⟩
        try simp only [List.length_nil] at hv bZ
        try rw [← hv]
        clear hv HX21 HY21 HB21 HP21 HT21 RD021 RD121 HZ21 RD221
        have HZ23 := Lib.hid bZ
        have HX23 := Lib.hid bX
        have HY23 := Lib.hid bY
        have HB23 := Lib.hid bB
        have HP23 := Lib.hid bP
        have HT23 := Lib.hid bT
        clear bZ bX bY bB bP bT
        go_wp2_with fail
        refine wp_region_tree (fun w' => Below w.heap.size w w' ∧ Blk w' w.heap.size 27 #[.slice C p.C.length cC, .slice S p.S.length cS, .slice L p.L.length cL] ∧ Blk w' t6 27 #[.slice D0 p.C.length d0, .slice D1 p.S.length d1, .slice D2 p.L.length d2]) (.float 0 (.float 1 (.float 3 (.float 4 (.float 5 (.one 2 (.one 6 (.float 7 .done)))))))) (by kernel_rfl) (by kernel_rfl) (fun _ _ d _ _ h => by cases d <;> exact h) ⟨HB23.out.drew, HX23.out.drew, HZ23.out.drew⟩ ?_
        obtain ⟨d24, hdr, hbd⟩ : ∃ d, d = s22.drew ∧ Below s22.heap.size s22 d := ⟨_, rfl, (Below.refl _ _).drew⟩
        rw [← hdr]
        clear hdr
        have hbc := hbd
        have HZ25 := Lib.hid (HZ23.out.after hbc)
        have HX25 := Lib.hid (HX23.out.after hbc)
        have HY25 := Lib.hid (HY23.out.after hbc)
        have HB25 := Lib.hid (below_then HB23.out hbc (Nat.le_refl _))
        have HP25 := Lib.hid ((HP23.out.below hbc).lt)
        have HT25 := Lib.hid ((HT23.out.below hbc).lt)
        clear hbc HZ23 HX23 HY23 HB23 HP23 HT23 hbd
        repeat (first
          | (refine wpTr_fskip (by simp only [List.getElem?_toArray, List.getElem?_cons_zero, List.getElem?_cons_succ]; rfl) (by rfl) ?_
             simp only [Act.put, List.setIfInBounds_toArray, List.set_cons_zero, List.set_cons_succ])
          | (refine wpTr_float (v := ?_) (by simp only [List.getElem?_toArray, List.getElem?_cons_zero, List.getElem?_cons_succ]; rfl) (by rfl) (fun w' hS => ?_) ?_
             rotate_left
             (obtain ⟨hSb, hSk, hSz⟩ := hS; obtain ⟨e0, e1, e2⟩ := hSk.cells3; obtain ⟨e3, e4, e5⟩ := hSz.cells3; have hls := hSk.lt; have hlz := hSz.lt; go_simp; first | done | rfl)
             simp only [Act.put, List.setIfInBounds_toArray, List.set_cons_zero, List.set_cons_succ]))
        refine wpTr_one ?_
        refine stepTr_K (by simp only [List.getElem?_toArray, List.getElem?_cons_zero, List.getElem?_cons_succ]; rfl) (by rfl) (fun K hK => ?_)
        go_simp
        refine (add_any D0 D1 D2 A d0 d1 d2 c _ p seq _ HP25.out HT25.out (Nat.le_refl _) lc lm (by omega) (by omega) (by omega)).mono ?_
        rintro e a26 ⟨B1, b1, B2, b2, B3, b3, rfl, g1, g2⟩
        have hbc := g2
        have HZ27 := Lib.hid (HZ25.out.after hbc)
        have HX27 := Lib.hid (HX25.out.after hbc)
        have HY27 := Lib.hid (HY25.out.after hbc)
        have HB27 := Lib.hid (below_then HB25.out hbc (Nat.le_refl _))
        have HP27 := Lib.hid ((HP25.out.below hbc).lt)
        have HT27 := Lib.hid ((HT25.out.below hbc).lt)
        have HR27 := Lib.hid (g1)
        clear hbc HZ25 HX25 HY25 HB25 HP25 HT25 g1 g2
        refine hK.out _ _ ⟨HB27.out, HX27.out, HZ27.out⟩ ?_
        clear hK K
        try simp only [Act.put, List.setIfInBounds_toArray, List.set_cons_zero, List.set_cons_succ]
        refine wpTr_one ?_
        refine stepTr_K (by simp only [List.getElem?_toArray, List.getElem?_cons_zero, List.getElem?_cons_succ]; rfl) (by rfl) (fun K hK => ?_)
        obtain ⟨y0, y1, y2⟩ := HY27.out.cells3
        obtain ⟨z0, z1, z2⟩ := HY27.out.free3
        have hly := HY27.out.lt
        go_simp
        clear y0 y1 y2 z0 z1 z2
        refine hK.out _ _ ⟨below_set3 HB27.out (by omega) _ _ _, HX27.out.far3 (by omega) _ _ _, HZ27.out.far3 (by omega) _ _ _⟩ ?_
        clear hK K
        try simp only [Act.put, List.setIfInBounds_toArray, List.set_cons_zero, List.set_cons_succ]
        repeat (first
          | (refine wpTr_fskip (by simp only [List.getElem?_toArray, List.getElem?_cons_zero, List.getElem?_cons_succ]; rfl) (by rfl) ?_
             simp only [Act.put, List.setIfInBounds_toArray, List.set_cons_zero, List.set_cons_succ])
          | (refine wpTr_float (v := ?_) (by simp only [List.getElem?_toArray, List.getElem?_cons_zero, List.getElem?_cons_succ]; rfl) (by rfl) (fun w' hS => ?_) ?_
             rotate_left
             (obtain ⟨hSb, hSk, hSz⟩ := hS; obtain ⟨e0, e1, e2⟩ := hSk.cells3; obtain ⟨e3, e4, e5⟩ := hSz.cells3; have hls := hSk.lt; have hlz := hSz.lt; go_simp; first | done | rfl)
             simp only [Act.put, List.setIfInBounds_toArray, List.set_cons_zero, List.set_cons_succ]))
        refine wpTr_done ?_
        go_wp2
        obtain ⟨q0, q1, q2⟩ := (Blk.set3 (a := .slice B1 (add14 p seq).C.length b1) (b := .slice B2 (add14 p seq).S.length b2) (c := .slice B3 (add14 p seq).L.length b3) HY27.out).cells3
        refine bodyPost_ret (v := .tuple #[.agg #[.slice B1 (add14 p seq).C.length b1, .slice B2 (add14 p seq).S.length b2, .slice B3 (add14 p seq).L.length b3], .int .i64 (p.S.length : Int)]) (by simp [results, Try.results17, go_sem, q0, q1, q2]) rfl ?_
        exact ⟨B1, b1, B2, b2, B3, b3, rfl, PlAt.apart3 HR27.out HY27.out _ _ _, below_set3 HB27.out (by omega) _ _ _⟩
    · refine stepTr_K (by simp only [List.getElem?_toArray, List.getElem?_cons_zero, List.getElem?_cons_succ]; rfl) (by rfl) (fun K hK => ?_)
      go_simp
      obtain ⟨b28, hv, hbb, hbk⟩ : ∃ v, v = a4.alloc (.cells #[.slice none 0 0, .slice none 0 0, .slice none 0 0] 27) ∧ Below a4.heap.size a4 v ∧ Blk v a4.heap.size 27 #[.slice none 0 0, .slice none 0 0, .slice none 0 0] := ⟨_, rfl, (Below.refl _ _).alloc (Nat.le_refl _) _, Blk.new _ _ _⟩
      rw [← hv]
      clear hv
      have hge := HY5.out.lt
      obtain ⟨t6, ht6⟩ : ∃ t6, t6 = a4.heap.size := ⟨_, rfl⟩
      rw [← ht6] at hbk ⊢
      have h6 : w.heap.size + 1 < t6 := by omega
      have hbc := hbb
      have HX29 := Lib.hid (HX5.out.after hbc)
      have HY29 := Lib.hid (HY5.out.after hbc)
      have HB29 := Lib.hid (below_then HB5.out hbc (Nat.le_refl _))
      have HP29 := Lib.hid ((HP5.out.below hbc).lt)
      have HT29 := Lib.hid ((HT5.out.below hbc).lt)
      have RD029 := Lib.hid ((RD05.out.below hbc).lt)
      have HZ29 := Lib.hid (hbk)
      clear hbc HX5 HY5 HB5 HP5 HT5 RD05 hbb hbk hge ht6
      refine hK.out _ _ ⟨HB29.out, HX29.out⟩ ?_
      clear hK K
      try simp only [Act.put, List.setIfInBounds_toArray, List.set_cons_zero, List.set_cons_succ]
      refine wpTr_one ?_
      refine stepTr_K (by simp only [List.getElem?_toArray, List.getElem?_cons_zero, List.getElem?_cons_succ]; rfl) (by rfl) (fun K hK => ?_)
      go_simp
      refine (copied_q S p.S.length cS p.S _ HP29.out.r2 rfl (by first | omega | simp)).mono ?_
      rintro e a30 ⟨D1, d1, rfl, x1, m1, g3, g4⟩
      have hbc := g4
      have HX31 := Lib.hid (HX29.out.after hbc)
      have HY31 := Lib.hid (HY29.out.after hbc)
      have HB31 := Lib.hid (below_then HB29.out hbc (Nat.le_refl _))
      have HP31 := Lib.hid ((HP29.out.below hbc).lt)
      have HT31 := Lib.hid ((HT29.out.below hbc).lt)
      have RD031 := Lib.hid ((RD029.out.below hbc).lt)
      have HZ31 := Lib.hid (HZ29.out.after hbc)
      have RD131 := Lib.hid (g3)
      clear hbc HX29 HY29 HB29 HP29 HT29 RD029 HZ29 g3 g4
      refine hK.out _ _ ⟨HB31.out, HX31.out⟩ ?_
      clear hK K
      try simp only [Act.put, List.setIfInBounds_toArray, List.set_cons_zero, List.set_cons_succ]
      refine wpTr_one ?_
      refine stepTr_K (by simp only [List.getElem?_toArray, List.getElem?_cons_zero, List.getElem?_cons_succ]; rfl) (by rfl) (fun K hK => ?_)
      go_simp
      refine (copied_q L p.L.length cL p.L _ HP31.out.r3 rfl (by first | omega | simp)).mono ?_
      rintro e a32 ⟨D2, d2, rfl, x2, m2, g3, g4⟩
      have hbc := g4
      have HX33 := Lib.hid (HX31.out.after hbc)
      have HY33 := Lib.hid (HY31.out.after hbc)
      have HB33 := Lib.hid (below_then HB31.out hbc (Nat.le_refl _))
      have HP33 := Lib.hid ((HP31.out.below hbc).lt)
      have HT33 := Lib.hid ((HT31.out.below hbc).lt)
      have RD033 := Lib.hid ((RD031.out.below hbc).lt)
      have HZ33 := Lib.hid (HZ31.out.after hbc)
      have RD133 := Lib.hid ((RD131.out.below hbc).lt)
      have RD233 := Lib.hid (g3)
      clear hbc HX31 HY31 HB31 HP31 HT31 RD031 HZ31 RD131 g3 g4
      refine hK.out _ _ ⟨HB33.out, HX33.out⟩ ?_
      clear hK K
      try simp only [Act.put, List.setIfInBounds_toArray, List.set_cons_zero, List.set_cons_succ]
      repeat (first
        | (refine wpTr_fskip (by simp only [List.getElem?_toArray, List.getElem?_cons_zero, List.getElem?_cons_succ]; rfl) (by rfl) ?_
           simp only [Act.put, List.setIfInBounds_toArray, List.set_cons_zero, List.set_cons_succ])
        | (refine wpTr_float (v := ?_) (by simp only [List.getElem?_toArray, List.getElem?_cons_zero, List.getElem?_cons_succ]; rfl) (by rfl) (fun w' hS => ?_) ?_
           rotate_left
           (obtain ⟨hSb, hSk⟩ := hS; obtain ⟨e0, e1, e2⟩ := hSk.cells3; have hls := hSk.lt; go_simp; first | done | rfl)
           simp only [Act.put, List.setIfInBounds_toArray, List.set_cons_zero, List.set_cons_succ]))
      refine wpTr_one ?_
      refine stepTr_K (by simp only [List.getElem?_toArray, List.getElem?_cons_zero, List.getElem?_cons_succ]; rfl) (by rfl) (fun K hK => ?_)
      obtain ⟨y0, y1, y2⟩ := HZ33.out.cells3
      obtain ⟨z0, z1, z2⟩ := HZ33.out.free3
      have hlz := HZ33.out.lt
      go_simp
      clear y0 y1 y2 z0 z1 z2
      refine hK.out _ _ ⟨below_set3 HB33.out (by omega) _ _ _, HX33.out.far3 (by omega) _ _ _⟩ ?_
      clear hK K
      try simp only [Act.put, List.setIfInBounds_toArray, List.set_cons_zero, List.set_cons_succ]
      refine wpTr_done ?_
      obtain ⟨s34, hv, bZ, bX, bY, bB, bP, bT⟩ : ∃ v, v = (((a32.setCell ⟨t6, 0, none⟩ (.slice D0 p.C.length d0)).setCell ⟨t6, 1, none⟩ (.slice D1 p.S.length d1)).setCell ⟨t6, 2, none⟩ (.slice D2 p.L.length d2)) ∧ Blk v t6 27 #[.slice D0 p.C.length d0, .slice D1 p.S.length d1, .slice D2 p.L.length d2] ∧ Blk v w.heap.size 27 #[.slice C p.C.length cC, .slice S p.S.length cS, .slice L p.L.length cL] ∧ Blk v (w.heap.size + 1) 27 #[.slice none 0 0, .slice none 0 0, .slice none 0 0] ∧ Below w.heap.size w v ∧ PlAt v v.heap.size D0 d0 D1 d1 D2 d2 p ∧ Row v v.heap.size A (ints seq) :=
        ⟨_, rfl, Blk.set3 HZ33.out, HX33.out.far3 (by omega) _ _ _, HY33.out.far3 (by omega) _ _ _, below_set3 HB33.out (by omega) _ _ _, PlAt.apart3 ⟨x0, m0, RD033.out, x1, m1, RD133.out, x2, m2, RD233.out⟩ HZ33.out _ _ _, by rw [size3]; exact Row.apart3 HT33.out HZ33.out _ _ _⟩
      try simp only [List.length_nil] at hv bZ
      try rw [← hv]
      clear hv HX33 HY33 HB33 HP33 HT33 RD033 HZ33 RD133 RD233
      have HZ35 := Lib.hid bZ
      have HX35 := Lib.hid bX
      have HY35 := Lib.hid bY
      have HB35 := Lib.hid bB
      have HP35 := Lib.hid bP
      have HT35 := Lib.hid bT
      clear bZ bX bY bB bP bT
      go_wp2_with fail
      refine wp_region_tree (fun w' => Below w.heap.size w w' ∧ Blk w' w.heap.size 27 #[.slice C p.C.length cC, .slice S p.S.length cS, .slice L p.L.length cL] ∧ Blk w' t6 27 #[.slice D0 p.C.length d0, .slice D1 p.S.length d1, .slice D2 p.L.length d2]) (.float 0 (.float 1 (.float 3 (.float 4 (.float 5 (.one 2 (.one 6 (.float 7 .done)))))))) (by kernel_rfl) (by kernel_rfl) (fun _ _ d _ _ h => by cases d <;> exact h) ⟨HB35.out.drew, HX35.out.drew, HZ35.out.drew⟩ ?_
      obtain ⟨d36, hdr, hbd⟩ : ∃ d, d = s34.drew ∧ Below s34.heap.size s34 d := ⟨_, rfl, (Below.refl _ _).drew⟩
      rw [← hdr]
      clear hdr
      have hbc := hbd
      have HZ37 := Lib.hid (HZ35.out.after hbc)
      have HX37 := Lib.hid (HX35.out.after hbc)
      have HY37 := Lib.hid (HY35.out.after hbc)
      have HB37 := Lib.hid (below_then HB35.out hbc (Nat.le_refl _))
      have HP37 := Lib.hid ((HP35.out.below hbc).lt)
      have HT37 := Lib.hid ((HT35.out.below hbc).lt)
      clear hbc HZ35 HX35 HY35 HB35 HP35 HT35 hbd
      repeat (first
        | (refine wpTr_fskip (by simp only [List.getElem?_toArray, List.getElem?_cons_zero, List.getElem?_cons_succ]; rfl) (by rfl) ?_
           simp only [Act.put, List.setIfInBounds_toArray, List.set_cons_zero, List.set_cons_succ])
        | (refine wpTr_float (v := ?_) (by simp only [List.getElem?_toArray, List.getElem?_cons_zero, List.getElem?_cons_succ]; rfl) (by rfl) (fun w' hS => ?_) ?_
           rotate_left
           (obtain ⟨hSb, hSk, hSz⟩ := hS; obtain ⟨e0, e1, e2⟩ := hSk.cells3; obtain ⟨e3, e4, e5⟩ := hSz.cells3; have hls := hSk.lt; have hlz := hSz.lt; go_simp; first | done | rfl)
           simp only [Act.put, List.setIfInBounds_toArray, List.set_cons_zero, List.set_cons_succ]))
      refine wpTr_one ?_
      refine stepTr_K (by simp only [List.getElem?_toArray, List.getElem?_cons_zero, List.getElem?_cons_succ]; rfl) (by rfl) (fun K hK => ?_)
      go_simp
      refine (add_any D0 D1 D2 A d0 d1 d2 c _ p seq _ HP37.out HT37.out (Nat.le_refl _) lc lm (by omega) (by omega) (by omega)).mono ?_
      rintro e a38 ⟨B1, b1, B2, b2, B3, b3, rfl, g1, g2⟩
      have hbc := g2
      have HZ39 := Lib.hid (HZ37.out.after hbc)
      have HX39 := Lib.hid (HX37.out.after hbc)
      have HY39 := Lib.hid (HY37.out.after hbc)
      have HB39 := Lib.hid (below_then HB37.out hbc (Nat.le_refl _))
      have HP39 := Lib.hid ((HP37.out.below hbc).lt)
      have HT39 := Lib.hid ((HT37.out.below hbc).lt)
      have HR39 := Lib.hid (g1)
      clear hbc HZ37 HX37 HY37 HB37 HP37 HT37 g1 g2
      refine hK.out _ _ ⟨HB39.out, HX39.out, HZ39.out⟩ ?_
      clear hK K
      try simp only [Act.put, List.setIfInBounds_toArray, List.set_cons_zero, List.set_cons_succ]
      refine wpTr_one ?_
      refine stepTr_K (by simp only [List.getElem?_toArray, List.getElem?_cons_zero, List.getElem?_cons_succ]; rfl) (by rfl) (fun K hK => ?_)
      obtain ⟨y0, y1, y2⟩ := HY39.out.cells3
      obtain ⟨z0, z1, z2⟩ := HY39.out.free3
      have hly := HY39.out.lt
      go_simp
      clear y0 y1 y2 z0 z1 z2
      refine hK.out _ _ ⟨below_set3 HB39.out (by omega) _ _ _, HX39.out.far3 (by omega) _ _ _, HZ39.out.far3 (by omega) _ _ _⟩ ?_
      clear hK K
      try simp only [Act.put, List.setIfInBounds_toArray, List.set_cons_zero, List.set_cons_succ]
      repeat (first
        | (refine wpTr_fskip (by simp only [List.getElem?_toArray, List.getElem?_cons_zero, List.getElem?_cons_succ]; rfl) (by rfl) ?_
           simp only [Act.put, List.setIfInBounds_toArray, List.set_cons_zero, List.set_cons_succ])
        | (refine wpTr_float (v := ?_) (by simp only [List.getElem?_toArray, List.getElem?_cons_zero, List.getElem?_cons_succ]; rfl) (by rfl) (fun w' hS => ?_) ?_
           rotate_left
           (obtain ⟨hSb, hSk, hSz⟩ := hS; obtain ⟨e0, e1, e2⟩ := hSk.cells3; obtain ⟨e3, e4, e5⟩ := hSz.cells3; have hls := hSk.lt; have hlz := hSz.lt; go_simp; first | done | rfl)
           simp only [Act.put, List.setIfInBounds_toArray, List.set_cons_zero, List.set_cons_succ]))
      refine wpTr_done ?_
      go_wp2
      obtain ⟨q0, q1, q2⟩ := (Blk.set3 (a := .slice B1 (add14 p seq).C.length b1) (b := .slice B2 (add14 p seq).S.length b2) (c := .slice B3 (add14 p seq).L.length b3) HY39.out).cells3
      refine bodyPost_ret (v := .tuple #[.agg #[.slice B1 (add14 p seq).C.length b1, .slice B2 (add14 p seq).S.length b2, .slice B3 (add14 p seq).L.length b3], .int .i64 (p.S.length : Int)]) (by simp [results, Try.results17, go_sem, q0, q1, q2]) rfl ?_
      exact ⟨B1, b1, B2, b2, B3, b3, rfl, PlAt.apart3 HR39.out HY39.out _ _ _, below_set3 HB39.out (by omega) _ _ _⟩
  · refine stepTr_K (by simp only [List.getElem?_toArray, List.getElem?_cons_zero, List.getElem?_cons_succ]; rfl) (by rfl) (fun K hK => ?_)
    go_simp
    obtain ⟨b40, hv, hbb, hbk⟩ : ∃ v, v = d2.alloc (.cells #[.slice none 0 0, .slice none 0 0, .slice none 0 0] 27) ∧ Below d2.heap.size d2 v ∧ Blk v d2.heap.size 27 #[.slice none 0 0, .slice none 0 0, .slice none 0 0] := ⟨_, rfl, (Below.refl _ _).alloc (Nat.le_refl _) _, Blk.new _ _ _⟩
    rw [← hv]
    clear hv
    have hge := HY3.out.lt
    obtain ⟨t6, ht6⟩ : ∃ t6, t6 = d2.heap.size := ⟨_, rfl⟩
    rw [← ht6] at hbk ⊢
    have h6 : w.heap.size + 1 < t6 := by omega
    have hbc := hbb
    have HX41 := Lib.hid (HX3.out.after hbc)
    have HY41 := Lib.hid (HY3.out.after hbc)
    have HB41 := Lib.hid (below_then HB3.out hbc (Nat.le_refl _))
    have HP41 := Lib.hid ((HP3.out.below hbc).lt)
    have HT41 := Lib.hid ((HT3.out.below hbc).lt)
    have HZ41 := Lib.hid (hbk)
    clear hbc HX3 HY3 HB3 HP3 HT3 hbb hbk hge ht6
    refine hK.out _ _ ⟨HB41.out, HX41.out⟩ ?_
    clear hK K
    try simp only [Act.put, List.setIfInBounds_toArray, List.set_cons_zero, List.set_cons_succ]
    refine wpTr_one ?_
    refine stepTr_K (by simp only [List.getElem?_toArray, List.getElem?_cons_zero, List.getElem?_cons_succ]; rfl) (by rfl) (fun K hK => ?_)
    go_simp
    refine (copied_q C p.C.length cC p.C _ HP41.out.r1 rfl (by first | omega | simp)).mono ?_
    rintro e a42 ⟨D0, d0, rfl, x0, m0, g3, g4⟩
    have hbc := g4
    have HX43 := Lib.hid (HX41.out.after hbc)
    have HY43 := Lib.hid (HY41.out.after hbc)
    have HB43 := Lib.hid (below_then HB41.out hbc (Nat.le_refl _))
    have HP43 := Lib.hid ((HP41.out.below hbc).lt)
    have HT43 := Lib.hid ((HT41.out.below hbc).lt)
    have HZ43 := Lib.hid (HZ41.out.after hbc)
    have RD043 := Lib.hid (g3)
    clear hbc HX41 HY41 HB41 HP41 HT41 HZ41 g3 g4
    refine hK.out _ _ ⟨HB43.out, HX43.out⟩ ?_
    clear hK K
    try simp only [Act.put, List.setIfInBounds_toArray, List.set_cons_zero, List.set_cons_succ]
    refine wpTr_one ?_
    refine stepTr_K (by simp only [List.getElem?_toArray, List.getElem?_cons_zero, List.getElem?_cons_succ]; rfl) (by rfl) (fun K hK => ?_)
    go_simp
    refine (copied_q S p.S.length cS p.S _ HP43.out.r2 rfl (by first | omega | simp)).mono ?_
    rintro e a44 ⟨D1, d1, rfl, x1, m1, g3, g4⟩
    have hbc := g4
    have HX45 := Lib.hid (HX43.out.after hbc)
    have HY45 := Lib.hid (HY43.out.after hbc)
    have HB45 := Lib.hid (below_then HB43.out hbc (Nat.le_refl _))
    have HP45 := Lib.hid ((HP43.out.below hbc).lt)
    have HT45 := Lib.hid ((HT43.out.below hbc).lt)
    have HZ45 := Lib.hid (HZ43.out.after hbc)
    have RD045 := Lib.hid ((RD043.out.below hbc).lt)
    have RD145 := Lib.hid (g3)
    clear hbc HX43 HY43 HB43 HP43 HT43 HZ43 RD043 g3 g4
    refine hK.out _ _ ⟨HB45.out, HX45.out⟩ ?_
    clear hK K
    try simp only [Act.put, List.setIfInBounds_toArray, List.set_cons_zero, List.set_cons_succ]
    refine wpTr_one ?_
    refine stepTr_K (by simp only [List.getElem?_toArray, List.getElem?_cons_zero, List.getElem?_cons_succ]; rfl) (by rfl) (fun K hK => ?_)
    go_simp
    refine (copied_q L p.L.length cL p.L _ HP45.out.r3 rfl (by first | omega | simp)).mono ?_
    rintro e a46 ⟨D2, d2, rfl, x2, m2, g3, g4⟩
    have hbc := g4
    have HX47 := Lib.hid (HX45.out.after hbc)
    have HY47 := Lib.hid (HY45.out.after hbc)
    have HB47 := Lib.hid (below_then HB45.out hbc (Nat.le_refl _))
    have HP47 := Lib.hid ((HP45.out.below hbc).lt)
    have HT47 := Lib.hid ((HT45.out.below hbc).lt)
    have HZ47 := Lib.hid (HZ45.out.after hbc)
    have RD047 := Lib.hid ((RD045.out.below hbc).lt)
    have RD147 := Lib.hid ((RD145.out.below hbc).lt)
    have RD247 := Lib.hid (g3)
    clear hbc HX45 HY45 HB45 HP45 HT45 HZ45 RD045 RD145 g3 g4
    refine hK.out _ _ ⟨HB47.out, HX47.out⟩ ?_
    clear hK K
    try simp only [Act.put, List.setIfInBounds_toArray, List.set_cons_zero, List.set_cons_succ]
    repeat (first
      | (refine wpTr_fskip (by simp only [List.getElem?_toArray, List.getElem?_cons_zero, List.getElem?_cons_succ]; rfl) (by rfl) ?_
         simp only [Act.put, List.setIfInBounds_toArray, List.set_cons_zero, List.set_cons_succ])
      | (refine wpTr_float (v := ?_) (by simp only [List.getElem?_toArray, List.getElem?_cons_zero, List.getElem?_cons_succ]; rfl) (by rfl) (fun w' hS => ?_) ?_
         rotate_left
         (obtain ⟨hSb, hSk⟩ := hS; obtain ⟨e0, e1, e2⟩ := hSk.cells3; have hls := hSk.lt; go_simp; first | done | rfl)
         simp only [Act.put, List.setIfInBounds_toArray, List.set_cons_zero, List.set_cons_succ]))
    refine wpTr_one ?_
    refine stepTr_K (by simp only [List.getElem?_toArray, List.getElem?_cons_zero, List.getElem?_cons_succ]; rfl) (by rfl) (fun K hK => ?_)
    obtain ⟨y0, y1, y2⟩ := HZ47.out.cells3
    obtain ⟨z0, z1, z2⟩ := HZ47.out.free3
    have hlz := HZ47.out.lt
    go_simp
    clear y0 y1 y2 z0 z1 z2
    refine hK.out _ _ ⟨below_set3 HB47.out (by omega) _ _ _, HX47.out.far3 (by omega) _ _ _⟩ ?_
    clear hK K
    try simp only [Act.put, List.setIfInBounds_toArray, List.set_cons_zero, List.set_cons_succ]
    refine wpTr_done ?_
    obtain ⟨s48, hv, bZ, bX, bY, bB, bP, bT⟩ : ∃ v, v = (((a46.setCell ⟨t6, 0, none⟩ (.slice D0 p.C.length d0)).setCell ⟨t6, 1, none⟩ (.slice D1 p.S.length d1)).setCell ⟨t6, 2, none⟩ (.slice D2 p.L.length d2)) ∧ Blk v t6 27 #[.slice D0 p.C.length d0, .slice D1 p.S.length d1, .slice D2 p.L.length d2] ∧ Blk v w.heap.size 27 #[.slice C p.C.length cC, .slice S p.S.length cS, .slice L p.L.length cL] ∧ Blk v (w.heap.size + 1) 27 #[.slice none 0 0, .slice none 0 0, .slice none 0 0] ∧ Below w.heap.size w v ∧ PlAt v v.heap.size D0 d0 D1 d1 D2 d2 p ∧ Row v v.heap.size A (ints seq) :=
      ⟨_, rfl, Blk.set3 HZ47.out, HX47.out.far3 (by omega) _ _ _, HY47.out.far3 (by omega) _ _ _, below_set3 HB47.out (by omega) _ _ _, PlAt.apart3 ⟨x0, m0, RD047.out, x1, m1, RD147.out, x2, m2, RD247.out⟩ HZ47.out _ _ _, by rw [size3]; exact Row.apart3 HT47.out HZ47.out _ _ _⟩
    try simp only [List.length_nil] at hv bZ
    try rw [← hv]
    clear hv HX47 HY47 HB47 HP47 HT47 HZ47 RD047 RD147 RD247
    have HZ49 := Lib.hid bZ
    have HX49 := Lib.hid bX
    have HY49 := Lib.hid bY
    have HB49 := Lib.hid bB
    have HP49 := Lib.hid bP
    have HT49 := Lib.hid bT
    clear bZ bX bY bB bP bT
    go_wp2_with fail
    refine wp_region_tree (fun w' => Below w.heap.size w w' ∧ Blk w' w.heap.size 27 #[.slice C p.C.length cC, .slice S p.S.length cS, .slice L p.L.length cL] ∧ Blk w' t6 27 #[.slice D0 p.C.length d0, .slice D1 p.S.length d1, .slice D2 p.L.length d2]) (.float 0 (.float 1 (.float 3 (.float 4 (.float 5 (.one 2 (.one 6 (.float 7 .done)))))))) (by kernel_rfl) (by kernel_rfl) (fun _ _ d _ _ h => by cases d <;> exact h) ⟨HB49.out.drew, HX49.out.drew, HZ49.out.drew⟩ ?_
    obtain ⟨d50, hdr, hbd⟩ : ∃ d, d = s48.drew ∧ Below s48.heap.size s48 d := ⟨_, rfl, (Below.refl _ _).drew⟩
    rw [← hdr]
    clear hdr
    have hbc := hbd
    have HZ51 := Lib.hid (HZ49.out.after hbc)
    have HX51 := Lib.hid (HX49.out.after hbc)
    have HY51 := Lib.hid (HY49.out.after hbc)
    have HB51 := Lib.hid (below_then HB49.out hbc (Nat.le_refl _))
    have HP51 := Lib.hid ((HP49.out.below hbc).lt)
    have HT51 := Lib.hid ((HT49.out.below hbc).lt)
    clear hbc HZ49 HX49 HY49 HB49 HP49 HT49 hbd
    repeat (first
      | (refine wpTr_fskip (by simp only [List.getElem?_toArray, List.getElem?_cons_zero, List.getElem?_cons_succ]; rfl) (by rfl) ?_
         simp only [Act.put, List.setIfInBounds_toArray, List.set_cons_zero, List.set_cons_succ])
      | (refine wpTr_float (v := ?_) (by simp only [List.getElem?_toArray, List.getElem?_cons_zero, List.getElem?_cons_succ]; rfl) (by rfl) (fun w' hS => ?_) ?_
         rotate_left
         (obtain ⟨hSb, hSk, hSz⟩ := hS; obtain ⟨e0, e1, e2⟩ := hSk.cells3; obtain ⟨e3, e4, e5⟩ := hSz.cells3; have hls := hSk.lt; have hlz := hSz.lt; go_simp; first | done | rfl)
         simp only [Act.put, List.setIfInBounds_toArray, List.set_cons_zero, List.set_cons_succ]))
    refine wpTr_one ?_
    refine stepTr_K (by simp only [List.getElem?_toArray, List.getElem?_cons_zero, List.getElem?_cons_succ]; rfl) (by rfl) (fun K hK => ?_)
    go_simp
    refine (add_any D0 D1 D2 A d0 d1 d2 c _ p seq _ HP51.out HT51.out (Nat.le_refl _) lc lm (by omega) (by omega) (by omega)).mono ?_
    rintro e a52 ⟨B1, b1, B2, b2, B3, b3, rfl, g1, g2⟩
    have hbc := g2
    have HZ53 := Lib.hid (HZ51.out.after hbc)
    have HX53 := Lib.hid (HX51.out.after hbc)
    have HY53 := Lib.hid (HY51.out.after hbc)
    have HB53 := Lib.hid (below_then HB51.out hbc (Nat.le_refl _))
    have HP53 := Lib.hid ((HP51.out.below hbc).lt)
    have HT53 := Lib.hid ((HT51.out.below hbc).lt)
    have HR53 := Lib.hid (g1)
    clear hbc HZ51 HX51 HY51 HB51 HP51 HT51 g1 g2
    refine hK.out _ _ ⟨HB53.out, HX53.out, HZ53.out⟩ ?_
    clear hK K
    try simp only [Act.put, List.setIfInBounds_toArray, List.set_cons_zero, List.set_cons_succ]
    refine wpTr_one ?_
    refine stepTr_K (by simp only [List.getElem?_toArray, List.getElem?_cons_zero, List.getElem?_cons_succ]; rfl) (by rfl) (fun K hK => ?_)
    obtain ⟨y0, y1, y2⟩ := HY53.out.cells3
    obtain ⟨z0, z1, z2⟩ := HY53.out.free3
    have hly := HY53.out.lt
    go_simp
    clear y0 y1 y2 z0 z1 z2
    refine hK.out _ _ ⟨below_set3 HB53.out (by omega) _ _ _, HX53.out.far3 (by omega) _ _ _, HZ53.out.far3 (by omega) _ _ _⟩ ?_
    clear hK K
    try simp only [Act.put, List.setIfInBounds_toArray, List.set_cons_zero, List.set_cons_succ]
    repeat (first
      | (refine wpTr_fskip (by simp only [List.getElem?_toArray, List.getElem?_cons_zero, List.getElem?_cons_succ]; rfl) (by rfl) ?_
         simp only [Act.put, List.setIfInBounds_toArray, List.set_cons_zero, List.set_cons_succ])
      | (refine wpTr_float (v := ?_) (by simp only [List.getElem?_toArray, List.getElem?_cons_zero, List.getElem?_cons_succ]; rfl) (by rfl) (fun w' hS => ?_) ?_
         rotate_left
         (obtain ⟨hSb, hSk, hSz⟩ := hS; obtain ⟨e0, e1, e2⟩ := hSk.cells3; obtain ⟨e3, e4, e5⟩ := hSz.cells3; have hls := hSk.lt; have hlz := hSz.lt; go_simp; first | done | rfl)
         simp only [Act.put, List.setIfInBounds_toArray, List.set_cons_zero, List.set_cons_succ]))
    refine wpTr_done ?_
    go_wp2
    obtain ⟨q0, q1, q2⟩ := (Blk.set3 (a := .slice B1 (add14 p seq).C.length b1) (b := .slice B2 (add14 p seq).S.length b2) (c := .slice B3 (add14 p seq).L.length b3) HY53.out).cells3
    refine bodyPost_ret (v := .tuple #[.agg #[.slice B1 (add14 p seq).C.length b1, .slice B2 (add14 p seq).S.length b2, .slice B3 (add14 p seq).L.length b3], .int .i64 (p.S.length : Int)]) (by simp [results, Try.results17, go_sem, q0, q1, q2]) rfl ?_
    exact ⟨B1, b1, B2, b2, B3, b3, rfl, PlAt.apart3 HR53.out HY53.out _ _ _, below_set3 HB53.out (by omega) _ _ _⟩
set_option maxHeartbeats 4000000 in
theorem addP_no (C S L A : Option Addr) (cC cS cL c : Nat) (p : Pl) (seq : List Int) (w : World) (hp : PlAt w w.heap.size C cC S cS L cL p) (hf : Fine p) (hq : Row w w.heap.size A (ints seq)) (lc : seq.length ≤ c) (lm : c ≤ maxLen) (hl : seq.length ≤ 5000) (hv : vld14 p = false) :
    Calls Try.prog 17 #[.agg #[.slice C p.C.length cC, .slice S p.S.length cS, .slice L p.L.length cL], .slice A seq.length c] w (RetPoolN w (add14 Pl.nil seq) 0) := by
  have HV := Lib.hid hv
  clear hv
  have HS0 := Lib.hid hp
  have HQ := Lib.hid hq
  have HF := Lib.hid hf
  obtain ⟨f1, f2, f3⟩ := hf
  clear hp hq
  go_enter Try.func17, Try.ntmps17
  go_wp2_with fail
  obtain ⟨v, hv, bX, bY, bB⟩ : ∃ v, v = (w.alloc (.cells #[.slice C p.C.length cC, .slice S p.S.length cS, .slice L p.L.length cL] 27)).alloc (.cells #[.slice none 0 0, .slice none 0 0, .slice none 0 0] 27) ∧
      Blk v w.heap.size 27 #[.slice C p.C.length cC, .slice S p.S.length cS, .slice L p.L.length cL] ∧ Blk v (w.heap.size + 1) 27 #[.slice none 0 0, .slice none 0 0, .slice none 0 0] ∧ Below w.heap.size w v :=
    ⟨_, rfl, (Blk.new _ _ _).alloc _, Blk.at_new (by simp), ((Below.refl _ _).alloc (Nat.le_refl _) _).alloc (by simp) _⟩
  rw [← hv]
  have HX0 := Lib.hid bX
  have HY0 := Lib.hid bY
  have HB0 := Lib.hid bB
  have HP0 := Lib.hid (HS0.out.below bB).lt
  have HT0 := Lib.hid (HQ.out.below bB).lt
  clear hv bX bY bB HS0 HQ
  refine (vld_calls C S L cC cS cL p _ HP0.out HF.out _ HV.out).mono ?_
  rintro e v1 ⟨rfl, hb1⟩
  have hbc := hb1
  have HX1 := Lib.hid (HX0.out.after hbc)
  have HY1 := Lib.hid (HY0.out.after hbc)
  have HB1 := Lib.hid (below_then HB0.out hbc (Nat.le_refl _))
  have HP1 := Lib.hid ((HP0.out.below hbc).lt)
  have HT1 := Lib.hid ((HT0.out.below hbc).lt)
  clear hbc HX0 HY0 HB0 HP0 HT0 hb1
  obtain ⟨y0, y1, y2⟩ := HX1.out.cells3
  obtain ⟨z0, z1, z2⟩ := HX1.out.free3
  have hlx := HX1.out.lt
  go_wp2_with fail
  clear y0 y1 y2 z0 z1 z2
  obtain ⟨v2, hv, bX, bY, bB, bT⟩ : ∃ v, v = (((v1.setCell ⟨w.heap.size, 0, none⟩ (.slice none 0 0)).setCell ⟨w.heap.size, 1, none⟩ (.slice none 0 0)).setCell ⟨w.heap.size, 2, none⟩ (.slice none 0 0)) ∧ Blk v w.heap.size 27 #[.slice none 0 0, .slice none 0 0, .slice none 0 0] ∧ Blk v (w.heap.size + 1) 27 #[.slice none 0 0, .slice none 0 0, .slice none 0 0] ∧ Below w.heap.size w v ∧ Row v v.heap.size A (ints seq) :=
    ⟨_, rfl, Blk.set3 HX1.out, HY1.out.far3 (by omega) _ _ _, below_set3 HB1.out (by omega) _ _ _, by rw [size3]; exact Row.apart3 HT1.out HX1.out _ _ _⟩
  rw [← hv]
  have HX9 := Lib.hid bX
  have HY9 := Lib.hid bY
  have HB9 := Lib.hid bB
  have HT9 := Lib.hid bT
  have HP9 := Lib.hid (PlAt.nil (w := v2) (B := v2.heap.size))
  clear hv bX bY bB bT
  refine wp_region_tree (fun w' => Below w.heap.size w w' ∧ Blk w' w.heap.size 27 #[.slice none 0 0, .slice none 0 0, .slice none 0 0]) (.float 0 (.float 1 (.float 3 (.float 4 (.float 6 (.float 7 (.two 2 (.two 5 (.two 8 (.float 9 (.one 10 (.one 11 .done))) 10 (.one 8 (.float 9 (.one 11 .done)))) 10 (.one 5 (.one 8 (.float 9 (.one 11 .done))))) 10 (.one 2 (.one 5 (.one 8 (.float 9 (.one 11 .done)))))))))))) (by kernel_rfl) (by kernel_rfl) (fun _ _ d _ _ h => by cases d <;> exact h) ⟨HB9.out.drew, HX9.out.drew⟩ ?_
  obtain ⟨d2, hdr, hbd⟩ : ∃ d, d = v2.drew ∧ Below v2.heap.size v2 d := ⟨_, rfl, (Below.refl _ _).drew⟩
  rw [← hdr]
  clear hdr
  have hbc := hbd
  have HX3 := Lib.hid (HX9.out.after hbc)
  have HY3 := Lib.hid (HY9.out.after hbc)
  have HB3 := Lib.hid (below_then HB9.out hbc (Nat.le_refl _))
  have HP3 := Lib.hid ((HP9.out.below hbc).lt)
  have HT3 := Lib.hid ((HT9.out.below hbc).lt)
  clear hbc HX9 HY9 HB9 HP9 HT9 hbd
  repeat (first
    | (refine wpTr_fskip (by simp only [List.getElem?_toArray, List.getElem?_cons_zero, List.getElem?_cons_succ]; rfl) (by rfl) ?_
       simp only [Act.put, List.setIfInBounds_toArray, List.set_cons_zero, List.set_cons_succ])
    | (refine wpTr_float (v := ?_) (by simp only [List.getElem?_toArray, List.getElem?_cons_zero, List.getElem?_cons_succ]; rfl) (by rfl) (fun w' hS => ?_) ?_
       rotate_left
       (obtain ⟨hSb, hSk⟩ := hS; obtain ⟨e0, e1, e2⟩ := hSk.cells3; have hls := hSk.lt; go_simp; first | done | rfl)
       simp only [Act.put, List.setIfInBounds_toArray, List.set_cons_zero, List.set_cons_succ]))
  refine wpTr_two ?_ ?_
  · refine stepTr_K (by simp only [List.getElem?_toArray, List.getElem?_cons_zero, List.getElem?_cons_succ]; rfl) (by rfl) (fun K hK => ?_)
    go_simp
    refine (copied_q none 0 0 ([] : List Int) _ HP3.out.r1 rfl (by first | omega | simp)).mono ?_
    rintro e a4 ⟨D0, d0, rfl, x0, m0, g3, g4⟩
    have hbc := g4
    have HX5 := Lib.hid (HX3.out.after hbc)
    have HY5 := Lib.hid (HY3.out.after hbc)
    have HB5 := Lib.hid (below_then HB3.out hbc (Nat.le_refl _))
    have HP5 := Lib.hid ((HP3.out.below hbc).lt)
    have HT5 := Lib.hid ((HT3.out.below hbc).lt)
    have RD05 := Lib.hid (g3)
    clear hbc HX3 HY3 HB3 HP3 HT3 g3 g4
    refine hK.out _ _ ⟨HB5.out, HX5.out⟩ ?_
    clear hK K
    try simp only [Act.put, List.setIfInBounds_toArray, List.set_cons_zero, List.set_cons_succ]
    refine wpTr_two ?_ ?_
    · refine stepTr_K (by simp only [List.getElem?_toArray, List.getElem?_cons_zero, List.getElem?_cons_succ]; rfl) (by rfl) (fun K hK => ?_)
      go_simp
      refine (copied_q none 0 0 ([] : List Int) _ HP5.out.r2 rfl (by first | omega | simp)).mono ?_
      rintro e a6 ⟨D1, d1, rfl, x1, m1, g3, g4⟩
      have hbc := g4
      have HX7 := Lib.hid (HX5.out.after hbc)
      have HY7 := Lib.hid (HY5.out.after hbc)
      have HB7 := Lib.hid (below_then HB5.out hbc (Nat.le_refl _))
      have HP7 := Lib.hid ((HP5.out.below hbc).lt)
      have HT7 := Lib.hid ((HT5.out.below hbc).lt)
      have RD07 := Lib.hid ((RD05.out.below hbc).lt)
      have RD17 := Lib.hid (g3)
      clear hbc HX5 HY5 HB5 HP5 HT5 RD05 g3 g4
      refine hK.out _ _ ⟨HB7.out, HX7.out⟩ ?_
      clear hK K
      try simp only [Act.put, List.setIfInBounds_toArray, List.set_cons_zero, List.set_cons_succ]
      refine wpTr_two ?_ ?_
      · refine stepTr_K (by simp only [List.getElem?_toArray, List.getElem?_cons_zero, List.getElem?_cons_succ]; rfl) (by rfl) (fun K hK => ?_)
        go_simp
        refine (copied_q none 0 0 ([] : List Int) _ HP7.out.r3 rfl (by first | omega | simp)).mono ?_
        rintro e a8 ⟨D2, d2, rfl, x2, m2, g3, g4⟩
        have hbc := g4
        have HX9 := Lib.hid (HX7.out.after hbc)
        have HY9 := Lib.hid (HY7.out.after hbc)
        have HB9 := Lib.hid (below_then HB7.out hbc (Nat.le_refl _))
        have HP9 := Lib.hid ((HP7.out.below hbc).lt)
        have HT9 := Lib.hid ((HT7.out.below hbc).lt)
        have RD09 := Lib.hid ((RD07.out.below hbc).lt)
        have RD19 := Lib.hid ((RD17.out.below hbc).lt)
        have RD29 := Lib.hid (g3)
        clear hbc HX7 HY7 HB7 HP7 HT7 RD07 RD17 g3 g4
        refine hK.out _ _ ⟨HB9.out, HX9.out⟩ ?_
        clear hK K
        try simp only [Act.put, List.setIfInBounds_toArray, List.set_cons_zero, List.set_cons_succ]
        repeat (first
          | (refine wpTr_fskip (by simp only [List.getElem?_toArray, List.getElem?_cons_zero, List.getElem?_cons_succ]; rfl) (by rfl) ?_
             simp only [Act.put, List.setIfInBounds_toArray, List.set_cons_zero, List.set_cons_succ])
          | (refine wpTr_float (v := ?_) (by simp only [List.getElem?_toArray, List.getElem?_cons_zero, List.getElem?_cons_succ]; rfl) (by rfl) (fun w' hS => ?_) ?_
             rotate_left
             (obtain ⟨hSb, hSk⟩ := hS; obtain ⟨e0, e1, e2⟩ := hSk.cells3; have hls := hSk.lt; go_simp; first | done | rfl)
             simp only [Act.put, List.setIfInBounds_toArray, List.set_cons_zero, List.set_cons_succ]))
        refine wpTr_one ?_
        refine stepTr_K (by simp only [List.getElem?_toArray, List.getElem?_cons_zero, List.getElem?_cons_succ]; rfl) (by rfl) (fun K hK => ?_)
        go_simp
        obtain ⟨b10, hv, hbb, hbk⟩ : ∃ v, v = a8.alloc (.cells #[.slice none 0 0, .slice none 0 0, .slice none 0 0] 27) ∧ Below a8.heap.size a8 v ∧ Blk v a8.heap.size 27 #[.slice none 0 0, .slice none 0 0, .slice none 0 0] := ⟨_, rfl, (Below.refl _ _).alloc (Nat.le_refl _) _, Blk.new _ _ _⟩
        rw [← hv]
        clear hv
        have hge := HY9.out.lt
        obtain ⟨t6, ht6⟩ : ∃ t6, t6 = a8.heap.size := ⟨_, rfl⟩
        rw [← ht6] at hbk ⊢
        have h6 : w.heap.size + 1 < t6 := by omega
        have hbc := hbb
        have HX11 := Lib.hid (HX9.out.after hbc)
        have HY11 := Lib.hid (HY9.out.after hbc)
        have HB11 := Lib.hid (below_then HB9.out hbc (Nat.le_refl _))
        have HP11 := Lib.hid ((HP9.out.below hbc).lt)
        have HT11 := Lib.hid ((HT9.out.below hbc).lt)
        have RD011 := Lib.hid ((RD09.out.below hbc).lt)
        have RD111 := Lib.hid ((RD19.out.below hbc).lt)
        have RD211 := Lib.hid ((RD29.out.below hbc).lt)
        have HZ11 := Lib.hid (hbk)
        clear hbc HX9 HY9 HB9 HP9 HT9 RD09 RD19 RD29 hbb hbk hge ht6
        refine hK.out _ _ ⟨HB11.out, HX11.out⟩ ?_
        clear hK K
        try simp only [Act.put, List.setIfInBounds_toArray, List.set_cons_zero, List.set_cons_succ]
        refine wpTr_one ?_
        refine stepTr_K (by simp only [List.getElem?_toArray, List.getElem?_cons_zero, List.getElem?_cons_succ]; rfl) (by rfl) (fun K hK => ?_)
        obtain ⟨y0, y1, y2⟩ := HZ11.out.cells3
        obtain ⟨z0, z1, z2⟩ := HZ11.out.free3
        have hlz := HZ11.out.lt
        go_simp
        clear y0 y1 y2 z0 z1 z2
        refine hK.out _ _ ⟨below_set3 HB11.out (by omega) _ _ _, HX11.out.far3 (by omega) _ _ _⟩ ?_
        clear hK K
        try simp only [Act.put, List.setIfInBounds_toArray, List.set_cons_zero, List.set_cons_succ]
        refine wpTr_done ?_
        obtain ⟨s12, hv, bZ, bX, bY, bB, bP, bT⟩ : ∃ v, v = (((b10.setCell ⟨t6, 0, none⟩ (.slice D0 ([] : List Int).length d0)).setCell ⟨t6, 1, none⟩ (.slice D1 ([] : List Int).length d1)).setCell ⟨t6, 2, none⟩ (.slice D2 ([] : List Int).length d2)) ∧ Blk v t6 27 #[.slice D0 ([] : List Int).length d0, .slice D1 ([] : List Int).length d1, .slice D2 ([] : List Int).length d2] ∧ Blk v w.heap.size 27 #[.slice none 0 0, .slice none 0 0, .slice none 0 0] ∧ Blk v (w.heap.size + 1) 27 #[.slice none 0 0, .slice none 0 0, .slice none 0 0] ∧ Below w.heap.size w v ∧ PlAt v v.heap.size D0 d0 D1 d1 D2 d2 Pl.nil ∧ Row v v.heap.size A (ints seq) :=
          ⟨_, rfl, Blk.set3 HZ11.out, HX11.out.far3 (by omega) _ _ _, HY11.out.far3 (by omega) _ _ _, below_set3 HB11.out (by omega) _ _ _, PlAt.apart3 ⟨x0, m0, RD011.out, x1, m1, RD111.out, x2, m2, RD211.out⟩ HZ11.out _ _ _, by rw [size3]; exact Row.apart3 HT11.out HZ11.out _ _ _⟩
        try simp only [List.length_nil] at hv bZ
        try rw [← hv]
        clear hv HX11 HY11 HB11 HP11 HT11 RD011 RD111 RD211 HZ11
        have HZ13 := Lib.hid bZ
        have HX13 := Lib.hid bX
        have HY13 := Lib.hid bY
        have HB13 := Lib.hid bB
        have HP13 := Lib.hid bP
        have HT13 := Lib.hid bT
        clear bZ bX bY bB bP bT
        go_wp2_with fail
        refine wp_region_tree (fun w' => Below w.heap.size w w' ∧ Blk w' w.heap.size 27 #[.slice none 0 0, .slice none 0 0, .slice none 0 0] ∧ Blk w' t6 27 #[.slice D0 ([] : List Int).length d0, .slice D1 ([] : List Int).length d1, .slice D2 ([] : List Int).length d2]) (.float 0 (.float 1 (.float 3 (.float 4 (.float 5 (.one 2 (.one 6 (.float 7 .done)))))))) (by kernel_rfl) (by kernel_rfl) (fun _ _ d _ _ h => by cases d <;> exact h) ⟨HB13.out.drew, HX13.out.drew, HZ13.out.drew⟩ ?_
        obtain ⟨d14, hdr, hbd⟩ : ∃ d, d = s12.drew ∧ Below s12.heap.size s12 d := ⟨_, rfl, (Below.refl _ _).drew⟩
        rw [← hdr]
        clear hdr
        have hbc := hbd
        have HZ15 := Lib.hid (HZ13.out.after hbc)
        have HX15 := Lib.hid (HX13.out.after hbc)
        have HY15 := Lib.hid (HY13.out.after hbc)
        have HB15 := Lib.hid (below_then HB13.out hbc (Nat.le_refl _))
        have HP15 := Lib.hid ((HP13.out.below hbc).lt)
        have HT15 := Lib.hid ((HT13.out.below hbc).lt)
        clear hbc HZ13 HX13 HY13 HB13 HP13 HT13 hbd
        repeat (first
          | (refine wpTr_fskip (by simp only [List.getElem?_toArray, List.getElem?_cons_zero, List.getElem?_cons_succ]; rfl) (by rfl) ?_
             simp only [Act.put, List.setIfInBounds_toArray, List.set_cons_zero, List.set_cons_succ])
          | (refine wpTr_float (v := ?_) (by simp only [List.getElem?_toArray, List.getElem?_cons_zero, List.getElem?_cons_succ]; rfl) (by rfl) (fun w' hS => ?_) ?_
             rotate_left
             (obtain ⟨hSb, hSk, hSz⟩ := hS; obtain ⟨e0, e1, e2⟩ := hSk.cells3; obtain ⟨e3, e4, e5⟩ := hSz.cells3; have hls := hSk.lt; have hlz := hSz.lt; go_simp; first | done | rfl)
             simp only [Act.put, List.setIfInBounds_toArray, List.set_cons_zero, List.set_cons_succ]))
        refine wpTr_one ?_
        refine stepTr_K (by simp only [List.getElem?_toArray, List.getElem?_cons_zero, List.getElem?_cons_succ]; rfl) (by rfl) (fun K hK => ?_)
        go_simp
        refine (add_any D0 D1 D2 A d0 d1 d2 c _ Pl.nil seq _ HP15.out HT15.out (Nat.le_refl _) lc lm (by simp [Pl.nil]; omega) (by simp [Pl.nil]) (by simp [Pl.nil])).mono ?_
        rintro e a16 ⟨B1, b1, B2, b2, B3, b3, rfl, g1, g2⟩
        have hbc := g2
        have HZ17 := Lib.hid (HZ15.out.after hbc)
        have HX17 := Lib.hid (HX15.out.after hbc)
        have HY17 := Lib.hid (HY15.out.after hbc)
        have HB17 := Lib.hid (below_then HB15.out hbc (Nat.le_refl _))
        have HP17 := Lib.hid ((HP15.out.below hbc).lt)
        have HT17 := Lib.hid ((HT15.out.below hbc).lt)
        have HR17 := Lib.hid (g1)
        clear hbc HZ15 HX15 HY15 HB15 HP15 HT15 g1 g2
        refine hK.out _ _ ⟨HB17.out, HX17.out, HZ17.out⟩ ?_
        clear hK K
        try simp only [Act.put, List.setIfInBounds_toArray, List.set_cons_zero, List.set_cons_succ]
        refine wpTr_one ?_
        refine stepTr_K (by simp only [List.getElem?_toArray, List.getElem?_cons_zero, List.getElem?_cons_succ]; rfl) (by rfl) (fun K hK => ?_)
        obtain ⟨y0, y1, y2⟩ := HY17.out.cells3
        obtain ⟨z0, z1, z2⟩ := HY17.out.free3
        have hly := HY17.out.lt
        go_simp
        clear y0 y1 y2 z0 z1 z2
        refine hK.out _ _ ⟨below_set3 HB17.out (by omega) _ _ _, HX17.out.far3 (by omega) _ _ _, HZ17.out.far3 (by omega) _ _ _⟩ ?_
        clear hK K
        try simp only [Act.put, List.setIfInBounds_toArray, List.set_cons_zero, List.set_cons_succ]
        repeat (first
          | (refine wpTr_fskip (by simp only [List.getElem?_toArray, List.getElem?_cons_zero, List.getElem?_cons_succ]; rfl) (by rfl) ?_
             simp only [Act.put, List.setIfInBounds_toArray, List.set_cons_zero, List.set_cons_succ])
          | (refine wpTr_float (v := ?_) (by simp only [List.getElem?_toArray, List.getElem?_cons_zero, List.getElem?_cons_succ]; rfl) (by rfl) (fun w' hS => ?_) ?_
             rotate_left
             (obtain ⟨hSb, hSk, hSz⟩ := hS; obtain ⟨e0, e1, e2⟩ := hSk.cells3; obtain ⟨e3, e4, e5⟩ := hSz.cells3; have hls := hSk.lt; have hlz := hSz.lt; go_simp; first | done | rfl)
             simp only [Act.put, List.setIfInBounds_toArray, List.set_cons_zero, List.set_cons_succ]))
        refine wpTr_done ?_
        go_wp2
        obtain ⟨q0, q1, q2⟩ := (Blk.set3 (a := .slice B1 (add14 Pl.nil seq).C.length b1) (b := .slice B2 (add14 Pl.nil seq).S.length b2) (c := .slice B3 (add14 Pl.nil seq).L.length b3) HY17.out).cells3
        refine bodyPost_ret (v := .tuple #[.agg #[.slice B1 (add14 Pl.nil seq).C.length b1, .slice B2 (add14 Pl.nil seq).S.length b2, .slice B3 (add14 Pl.nil seq).L.length b3], .int .i64 (0 : Int)]) (by simp [results, Try.results17, go_sem, q0, q1, q2]) rfl ?_
        exact ⟨B1, b1, B2, b2, B3, b3, rfl, PlAt.apart3 HR17.out HY17.out _ _ _, below_set3 HB17.out (by omega) _ _ _⟩
      · refine stepTr_K (by simp only [List.getElem?_toArray, List.getElem?_cons_zero, List.getElem?_cons_succ]; rfl) (by rfl) (fun K hK => ?_)
        go_simp
        obtain ⟨b18, hv, hbb, hbk⟩ : ∃ v, v = a6.alloc (.cells #[.slice none 0 0, .slice none 0 0, .slice none 0 0] 27) ∧ Below a6.heap.size a6 v ∧ Blk v a6.heap.size 27 #[.slice none 0 0, .slice none 0 0, .slice none 0 0] := ⟨_, rfl, (Below.refl _ _).alloc (Nat.le_refl _) _, Blk.new _ _ _⟩
        rw [← hv]
        clear hv
        have hge := HY7.out.lt
        obtain ⟨t6, ht6⟩ : ∃ t6, t6 = a6.heap.size := ⟨_, rfl⟩
        rw [← ht6] at hbk ⊢
        have h6 : w.heap.size + 1 < t6 := by omega
        have hbc := hbb
        have HX19 := Lib.hid (HX7.out.after hbc)
        have HY19 := Lib.hid (HY7.out.after hbc)
        have HB19 := Lib.hid (below_then HB7.out hbc (Nat.le_refl _))
        have HP19 := Lib.hid ((HP7.out.below hbc).lt)
        have HT19 := Lib.hid ((HT7.out.below hbc).lt)
        have RD019 := Lib.hid ((RD07.out.below hbc).lt)
        have RD119 := Lib.hid ((RD17.out.below hbc).lt)
        have HZ19 := Lib.hid (hbk)
        clear hbc HX7 HY7 HB7 HP7 HT7 RD07 RD17 hbb hbk hge ht6
        refine hK.out _ _ ⟨HB19.out, HX19.out⟩ ?_
        clear hK K
        try simp only [Act.put, List.setIfInBounds_toArray, List.set_cons_zero, List.set_cons_succ]
        refine wpTr_one ?_
        refine stepTr_K (by simp only [List.getElem?_toArray, List.getElem?_cons_zero, List.getElem?_cons_succ]; rfl) (by rfl) (fun K hK => ?_)
        go_simp
        refine (copied_q none 0 0 ([] : List Int) _ HP19.out.r3 rfl (by first | omega | simp)).mono ?_
        rintro e a20 ⟨D2, d2, rfl, x2, m2, g3, g4⟩
        have hbc := g4
        have HX21 := Lib.hid (HX19.out.after hbc)
        have HY21 := Lib.hid (HY19.out.after hbc)
        have HB21 := Lib.hid (below_then HB19.out hbc (Nat.le_refl _))
        have HP21 := Lib.hid ((HP19.out.below hbc).lt)
        have HT21 := Lib.hid ((HT19.out.below hbc).lt)
        have RD021 := Lib.hid ((RD019.out.below hbc).lt)
        have RD121 := Lib.hid ((RD119.out.below hbc).lt)
        have HZ21 := Lib.hid (HZ19.out.after hbc)
        have RD221 := Lib.hid (g3)
        clear hbc HX19 HY19 HB19 HP19 HT19 RD019 RD119 HZ19 g3 g4
        refine hK.out _ _ ⟨HB21.out, HX21.out⟩ ?_
        clear hK K
        try simp only [Act.put, List.setIfInBounds_toArray, List.set_cons_zero, List.set_cons_succ]
        repeat (first
          | (refine wpTr_fskip (by simp only [List.getElem?_toArray, List.getElem?_cons_zero, List.getElem?_cons_succ]; rfl) (by rfl) ?_
             simp only [Act.put, List.setIfInBounds_toArray, List.set_cons_zero, List.set_cons_succ])
          | (refine wpTr_float (v := ?_) (by simp only [List.getElem?_toArray, List.getElem?_cons_zero, List.getElem?_cons_succ]; rfl) (by rfl) (fun w' hS => ?_) ?_
             rotate_left
             (obtain ⟨hSb, hSk⟩ := hS; obtain ⟨e0, e1, e2⟩ := hSk.cells3; have hls := hSk.lt; go_simp; first | done | rfl)
             simp only [Act.put, List.setIfInBounds_toArray, List.set_cons_zero, List.set_cons_succ]))
        refine wpTr_one ?_
        refine stepTr_K (by simp only [List.getElem?_toArray, List.getElem?_cons_zero, List.getElem?_cons_succ]; rfl) (by rfl) (fun K hK => ?_)
        obtain ⟨y0, y1, y2⟩ := HZ21.out.cells3
        obtain ⟨z0, z1, z2⟩ := HZ21.out.free3
        have hlz := HZ21.out.lt
        go_simp
        clear y0 y1 y2 z0 z1 z2
        refine hK.out _ _ ⟨below_set3 HB21.out (by omega) _ _ _, HX21.out.far3 (by omega) _ _ _⟩ ?_
        clear hK K
        try simp only [Act.put, List.setIfInBounds_toArray, List.set_cons_zero, List.set_cons_succ]
        refine wpTr_done ?_
        obtain ⟨s22, hv, bZ, bX, bY, bB, bP, bT⟩ : ∃ v, v = (((a20.setCell ⟨t6, 0, none⟩ (.slice D0 ([] : List Int).length d0)).setCell ⟨t6, 1, none⟩ (.slice D1 ([] : List Int).length d1)).setCell ⟨t6, 2, none⟩ (.slice D2 ([] : List Int).length d2)) ∧ Blk v t6 27 #[.slice D0 ([] : List Int).length d0, .slice D1 ([] : List Int).length d1, .slice D2 ([] : List Int).length d2] ∧ Blk v w.heap.size 27 #[.slice none 0 0, .slice none 0 0, .slice none 0 0] ∧ Blk v (w.heap.size + 1) 27 #[.slice none 0 0, .slice none 0 0, .slice none 0 0] ∧ Below w.heap.size w v ∧ PlAt v v.heap.size D0 d0 D1 d1 D2 d2 Pl.nil ∧ Row v v.heap.size A (ints seq) :=
          ⟨_, rfl, Blk.set3 HZ21.out, HX21.out.far3 (by omega) _ _ _, HY21.out.far3 (by omega) _ _ _, below_set3 HB21.out (by omega) _ _ _, PlAt.apart3 ⟨x0, m0, RD021.out, x1, m1, RD121.out, x2, m2, RD221.out⟩ HZ21.out _ _ _, by rw [size3]; exact Row.apart3 HT21.out HZ21.out _ _ _⟩
        try simp only [List.length_nil] at hv bZ
        try rw [← hv]
        clear hv HX21 HY21 HB21 HP21 HT21 RD021 RD121 HZ21 RD221
        have HZ23 := Lib.hid bZ
        have HX23 := Lib.hid bX
        have HY23 := Lib.hid bY
        have HB23 := Lib.hid bB
        have HP23 := Lib.hid bP
        have HT23 := Lib.hid bT
        clear bZ bX bY bB bP bT
        go_wp2_with fail
        refine wp_region_tree (fun w' => Below w.heap.size w w' ∧ Blk w' w.heap.size 27 #[.slice none 0 0, .slice none 0 0, .slice none 0 0] ∧ Blk w' t6 27 #[.slice D0 ([] : List Int).length d0, .slice D1 ([] : List Int).length d1, .slice D2 ([] : List Int).length d2]) (.float 0 (.float 1 (.float 3 (.float 4 (.float 5 (.one 2 (.one 6 (.float 7 .done)))))))) (by kernel_rfl) (by kernel_rfl) (fun _ _ d _ _ h => by cases d <;> exact h) ⟨HB23.out.drew, HX23.out.drew, HZ23.out.drew⟩ ?_
        obtain ⟨d24, hdr, hbd⟩ : ∃ d, d = s22.drew ∧ Below s22.heap.size s22 d := ⟨_, rfl, (Below.refl _ _).drew⟩
        rw [← hdr]
        clear hdr
        have hbc := hbd
        have HZ25 := Lib.hid (HZ23.out.after hbc)
        have HX25 := Lib.hid (HX23.out.after hbc)
        have HY25 := Lib.hid (HY23.out.after hbc)
        have HB25 := Lib.hid (below_then HB23.out hbc (Nat.le_refl _))
        have HP25 := Lib.hid ((HP23.out.below hbc).lt)
        have HT25 := Lib.hid ((HT23.out.below hbc).lt)
        clear hbc HZ23 HX23 HY23 HB23 HP23 HT23 hbd
        repeat (first
          | (refine wpTr_fskip (by simp only [List.getElem?_toArray, List.getElem?_cons_zero, List.getElem?_cons_succ]; rfl) (by rfl) ?_
             simp only [Act.put, List.setIfInBounds_toArray, List.set_cons_zero, List.set_cons_succ])
          | (refine wpTr_float (v := ?_) (by simp only [List.getElem?_toArray, List.getElem?_cons_zero, List.getElem?_cons_succ]; rfl) (by rfl) (fun w' hS => ?_) ?_
             rotate_left
             (obtain ⟨hSb, hSk, hSz⟩ := hS; obtain ⟨e0, e1, e2⟩ := hSk.cells3; obtain ⟨e3, e4, e5⟩ := hSz.cells3; have hls := hSk.lt; have hlz := hSz.lt; go_simp; first | done | rfl)
             simp only [Act.put, List.setIfInBounds_toArray, List.set_cons_zero, List.set_cons_succ]))
        refine wpTr_one ?_
        refine stepTr_K (by simp only [List.getElem?_toArray, List.getElem?_cons_zero, List.getElem?_cons_succ]; rfl) (by rfl) (fun K hK => ?_)
        go_simp
        refine (add_any D0 D1 D2 A d0 d1 d2 c _ Pl.nil seq _ HP25.out HT25.out (Nat.le_refl _) lc lm (by simp [Pl.nil]; omega) (by simp [Pl.nil]) (by simp [Pl.nil])).mono ?_
        rintro e a26 ⟨B1, b1, B2, b2, B3, b3, rfl, g1, g2⟩
        have hbc := g2
        have HZ27 := Lib.hid (HZ25.out.after hbc)
        have HX27 := Lib.hid (HX25.out.after hbc)
        have HY27 := Lib.hid (HY25.out.after hbc)
        have HB27 := Lib.hid (below_then HB25.out hbc (Nat.le_refl _))
        have HP27 := Lib.hid ((HP25.out.below hbc).lt)
        have HT27 := Lib.hid ((HT25.out.below hbc).lt)
        have HR27 := Lib.hid (g1)
        clear hbc HZ25 HX25 HY25 HB25 HP25 HT25 g1 g2
        refine hK.out _ _ ⟨HB27.out, HX27.out, HZ27.out⟩ ?_
        clear hK K
        try simp only [Act.put, List.setIfInBounds_toArray, List.set_cons_zero, List.set_cons_succ]
        refine wpTr_one ?_
        refine stepTr_K (by simp only [List.getElem?_toArray, List.getElem?_cons_zero, List.getElem?_cons_succ]; rfl) (by rfl) (fun K hK => ?_)
        obtain ⟨y0, y1, y2⟩ := HY27.out.cells3
        obtain ⟨z0, z1, z2⟩ := HY27.out.free3
        have hly := HY27.out.lt
        go_simp
        clear y0 y1 y2 z0 z1 z2
        refine hK.out _ _ ⟨below_set3 HB27.out (by omega) _ _ _, HX27.out.far3 (by omega) _ _ _, HZ27.out.far3 (by omega) _ _ _⟩ ?_
        clear hK K
        try simp only [Act.put, List.setIfInBounds_toArray, List.set_cons_zero, List.set_cons_succ]
        repeat (first
          | (refine wpTr_fskip (by simp only [List.getElem?_toArray, List.getElem?_cons_zero, List.getElem?_cons_succ]; rfl) (by rfl) ?_
             simp only [Act.put, List.setIfInBounds_toArray, List.set_cons_zero, List.set_cons_succ])
          | (refine wpTr_float (v := ?_) (by simp only [List.getElem?_toArray, List.getElem?_cons_zero, List.getElem?_cons_succ]; rfl) (by rfl) (fun w' hS => ?_) ?_
             rotate_left
             (obtain ⟨hSb, hSk, hSz⟩ := hS; obtain ⟨e0, e1, e2⟩ := hSk.cells3; obtain ⟨e3, e4, e5⟩ := hSz.cells3; have hls := hSk.lt; have hlz := hSz.lt; go_simp; first | done | rfl)
             simp only [Act.put, List.setIfInBounds_toArray, List.set_cons_zero, List.set_cons_succ]))
        refine wpTr_done ?_
        go_wp2
        obtain ⟨q0, q1, q2⟩ := (Blk.set3 (a := .slice B1 (add14 Pl.nil seq).C.length b1) (b := .slice B2 (add14 Pl.nil seq).S.length b2) (c := .slice B3 (add14 Pl.nil seq).L.length b3) HY27.out).cells3
        refine bodyPost_ret (v := .tuple #[.agg #[.slice B1 (add14 Pl.nil seq).C.length b1, .slice B2 (add14 Pl.nil seq).S.length b2, .slice B3 (add14 Pl.nil seq).L.length b3], .int .i64 (0 : Int)]) (by simp [results, Try.results17, go_sem, q0, q1, q2]) rfl ?_
        exact ⟨B1, b1, B2, b2, B3, b3, rfl, PlAt.apart3 HR27.out HY27.out _ _ _, below_set3 HB27.out (by omega) _ _ _⟩
    · refine stepTr_K (by simp only [List.getElem?_toArray, List.getElem?_cons_zero, List.getElem?_cons_succ]; rfl) (by rfl) (fun K hK => ?_)
      go_simp
      obtain ⟨b28, hv, hbb, hbk⟩ : ∃ v, v = a4.alloc (.cells #[.slice none 0 0, .slice none 0 0, .slice none 0 0] 27) ∧ Below a4.heap.size a4 v ∧ Blk v a4.heap.size 27 #[.slice none 0 0, .slice none 0 0, .slice none 0 0] := ⟨_, rfl, (Below.refl _ _).alloc (Nat.le_refl _) _, Blk.new _ _ _⟩
      rw [← hv]
      clear hv
      have hge := HY5.out.lt
      obtain ⟨t6, ht6⟩ : ∃ t6, t6 = a4.heap.size := ⟨_, rfl⟩
      rw [← ht6] at hbk ⊢
      have h6 : w.heap.size + 1 < t6 := by omega
      have hbc := hbb
      have HX29 := Lib.hid (HX5.out.after hbc)
      have HY29 := Lib.hid (HY5.out.after hbc)
      have HB29 := Lib.hid (below_then HB5.out hbc (Nat.le_refl _))
      have HP29 := Lib.hid ((HP5.out.below hbc).lt)
      have HT29 := Lib.hid ((HT5.out.below hbc).lt)
      have RD029 := Lib.hid ((RD05.out.below hbc).lt)
      have HZ29 := Lib.hid (hbk)
      clear hbc HX5 HY5 HB5 HP5 HT5 RD05 hbb hbk hge ht6
      refine hK.out _ _ ⟨HB29.out, HX29.out⟩ ?_
      clear hK K
      try simp only [Act.put, List.setIfInBounds_toArray, List.set_cons_zero, List.set_cons_succ]
      refine wpTr_one ?_
      refine stepTr_K (by simp only [List.getElem?_toArray, List.getElem?_cons_zero, List.getElem?_cons_succ]; rfl) (by rfl) (fun K hK => ?_)
      go_simp
      refine (copied_q none 0 0 ([] : List Int) _ HP29.out.r2 rfl (by first | omega | simp)).mono ?_
      rintro e a30 ⟨D1, d1, rfl, x1, m1, g3, g4⟩
      have hbc := g4
      have HX31 := Lib.hid (HX29.out.after hbc)
      have HY31 := Lib.hid (HY29.out.after hbc)
      have HB31 := Lib.hid (below_then HB29.out hbc (Nat.le_refl _))
      have HP31 := Lib.hid ((HP29.out.below hbc).lt)
      have HT31 := Lib.hid ((HT29.out.below hbc).lt)
      have RD031 := Lib.hid ((RD029.out.below hbc).lt)
      have HZ31 := Lib.hid (HZ29.out.after hbc)
      have RD131 := Lib.hid (g3)
      clear hbc HX29 HY29 HB29 HP29 HT29 RD029 HZ29 g3 g4
      refine hK.out _ _ ⟨HB31.out, HX31.out⟩ ?_
      clear hK K
      try simp only [Act.put, List.setIfInBounds_toArray, List.set_cons_zero, List.set_cons_succ]
      refine wpTr_one ?_
      refine stepTr_K (by simp only [List.getElem?_toArray, List.getElem?_cons_zero, List.getElem?_cons_succ]; rfl) (by rfl) (fun K hK => ?_)
      go_simp
      refine (copied_q none 0 0 ([] : List Int) _ HP31.out.r3 rfl (by first | omega | simp)).mono ?_
      rintro e a32 ⟨D2, d2, rfl, x2, m2, g3, g4⟩
      have hbc := g4
      have HX33 := Lib.hid (HX31.out.after hbc)
      have HY33 := Lib.hid (HY31.out.after hbc)
      have HB33 := Lib.hid (below_then HB31.out hbc (Nat.le_refl _))
      have HP33 := Lib.hid ((HP31.out.below hbc).lt)
      have HT33 := Lib.hid ((HT31.out.below hbc).lt)
      have RD033 := Lib.hid ((RD031.out.below hbc).lt)
      have HZ33 := Lib.hid (HZ31.out.after hbc)
      have RD133 := Lib.hid ((RD131.out.below hbc).lt)
      have RD233 := Lib.hid (g3)
      clear hbc HX31 HY31 HB31 HP31 HT31 RD031 HZ31 RD131 g3 g4
      refine hK.out _ _ ⟨HB33.out, HX33.out⟩ ?_
      clear hK K
      try simp only [Act.put, List.setIfInBounds_toArray, List.set_cons_zero, List.set_cons_succ]
      repeat (first
        | (refine wpTr_fskip (by simp only [List.getElem?_toArray, List.getElem?_cons_zero, List.getElem?_cons_succ]; rfl) (by rfl) ?_
           simp only [Act.put, List.setIfInBounds_toArray, List.set_cons_zero, List.set_cons_succ])
        | (refine wpTr_float (v := ?_) (by simp only [List.getElem?_toArray, List.getElem?_cons_zero, List.getElem?_cons_succ]; rfl) (by rfl) (fun w' hS => ?_) ?_
           rotate_left
           (obtain ⟨hSb, hSk⟩ := hS; obtain ⟨e0, e1, e2⟩ := hSk.cells3; have hls := hSk.lt; go_simp; first | done | rfl)
           simp only [Act.put, List.setIfInBounds_toArray, List.set_cons_zero, List.set_cons_succ]))
      refine wpTr_one ?_
      refine stepTr_K (by simp only [List.getElem?_toArray, List.getElem?_cons_zero, List.getElem?_cons_succ]; rfl) (by rfl) (fun K hK => ?_)
      obtain ⟨y0, y1, y2⟩ := HZ33.out.cells3
      obtain ⟨z0, z1, z2⟩ := HZ33.out.free3
      have hlz := HZ33.out.lt
      go_simp
      clear y0 y1 y2 z0 z1 z2
      refine hK.out _ _ ⟨below_set3 HB33.out (by omega) _ _ _, HX33.out.far3 (by omega) _ _ _⟩ ?_
      clear hK K
      try simp only [Act.put, List.setIfInBounds_toArray, List.set_cons_zero, List.set_cons_succ]
      refine wpTr_done ?_
      obtain ⟨s34, hv, bZ, bX, bY, bB, bP, bT⟩ : ∃ v, v = (((a32.setCell ⟨t6, 0, none⟩ (.slice D0 ([] : List Int).length d0)).setCell ⟨t6, 1, none⟩ (.slice D1 ([] : List Int).length d1)).setCell ⟨t6, 2, none⟩ (.slice D2 ([] : List Int).length d2)) ∧ Blk v t6 27 #[.slice D0 ([] : List Int).length d0, .slice D1 ([] : List Int).length d1, .slice D2 ([] : List Int).length d2] ∧ Blk v w.heap.size 27 #[.slice none 0 0, .slice none 0 0, .slice none 0 0] ∧ Blk v (w.heap.size + 1) 27 #[.slice none 0 0, .slice none 0 0, .slice none 0 0] ∧ Below w.heap.size w v ∧ PlAt v v.heap.size D0 d0 D1 d1 D2 d2 Pl.nil ∧ Row v v.heap.size A (ints seq) :=
        ⟨_, rfl, Blk.set3 HZ33.out, HX33.out.far3 (by omega) _ _ _, HY33.out.far3 (by omega) _ _ _, below_set3 HB33.out (by omega) _ _ _, PlAt.apart3 ⟨x0, m0, RD033.out, x1, m1, RD133.out, x2, m2, RD233.out⟩ HZ33.out _ _ _, by rw [size3]; exact Row.apart3 HT33.out HZ33.out _ _ _⟩
      try simp only [List.length_nil] at hv bZ
      try rw [← hv]
      clear hv HX33 HY33 HB33 HP33 HT33 RD033 HZ33 RD133 RD233
      have HZ35 := Lib.hid bZ
      have HX35 := Lib.hid bX
      have HY35 := Lib.hid bY
      have HB35 := Lib.hid bB
      have HP35 := Lib.hid bP
      have HT35 := Lib.hid bT
      clear bZ bX bY bB bP bT
      go_wp2_with fail
      refine wp_region_tree (fun w' => Below w.heap.size w w' ∧ Blk w' w.heap.size 27 #[.slice none 0 0, .slice none 0 0, .slice none 0 0] ∧ Blk w' t6 27 #[.slice D0 ([] : List Int).length d0, .slice D1 ([] : List Int).length d1, .slice D2 ([] : List Int).length d2]) (.float 0 (.float 1 (.float 3 (.float 4 (.float 5 (.one 2 (.one 6 (.float 7 .done)))))))) (by kernel_rfl) (by kernel_rfl) (fun _ _ d _ _ h => by cases d <;> exact h) ⟨HB35.out.drew, HX35.out.drew, HZ35.out.drew⟩ ?_
      obtain ⟨d36, hdr, hbd⟩ : ∃ d, d = s34.drew ∧ Below s34.heap.size s34 d := ⟨_, rfl, (Below.refl _ _).drew⟩
      rw [← hdr]
      clear hdr
      have hbc := hbd
      have HZ37 := Lib.hid (HZ35.out.after hbc)
      have HX37 := Lib.hid (HX35.out.after hbc)
      have HY37 := Lib.hid (HY35.out.after hbc)
      have HB37 := Lib.hid (below_then HB35.out hbc (Nat.le_refl _))
      have HP37 := Lib.hid ((HP35.out.below hbc).lt)
      have HT37 := Lib.hid ((HT35.out.below hbc).lt)
      clear hbc HZ35 HX35 HY35 HB35 HP35 HT35 hbd
      repeat (first
        | (refine wpTr_fskip (by simp only [List.getElem?_toArray, List.getElem?_cons_zero, List.getElem?_cons_succ]; rfl) (by rfl) ?_
           simp only [Act.put, List.setIfInBounds_toArray, List.set_cons_zero, List.set_cons_succ])
        | (refine wpTr_float (v := ?_) (by simp only [List.getElem?_toArray, List.getElem?_cons_zero, List.getElem?_cons_succ]; rfl) (by rfl) (fun w' hS => ?_) ?_
           rotate_left
           (obtain ⟨hSb, hSk, hSz⟩ := hS; obtain ⟨e0, e1, e2⟩ := hSk.cells3; obtain ⟨e3, e4, e5⟩ := hSz.cells3; have hls := hSk.lt; have hlz := hSz.lt; go_simp; first | done | rfl)
           simp only [Act.put, List.setIfInBounds_toArray, List.set_cons_zero, List.set_cons_succ]))
      refine wpTr_one ?_
      refine stepTr_K (by simp only [List.getElem?_toArray, List.getElem?_cons_zero, List.getElem?_cons_succ]; rfl) (by rfl) (fun K hK => ?_)
      go_simp
      refine (add_any D0 D1 D2 A d0 d1 d2 c _ Pl.nil seq _ HP37.out HT37.out (Nat.le_refl _) lc lm (by simp [Pl.nil]; omega) (by simp [Pl.nil]) (by simp [Pl.nil])).mono ?_
      rintro e a38 ⟨B1, b1, B2, b2, B3, b3, rfl, g1, g2⟩
      have hbc := g2
      have HZ39 := Lib.hid (HZ37.out.after hbc)
      have HX39 := Lib.hid (HX37.out.after hbc)
      have HY39 := Lib.hid (HY37.out.after hbc)
      have HB39 := Lib.hid (below_then HB37.out hbc (Nat.le_refl _))
      have HP39 := Lib.hid ((HP37.out.below hbc).lt)
      have HT39 := Lib.hid ((HT37.out.below hbc).lt)
      have HR39 := Lib.hid (g1)
      clear hbc HZ37 HX37 HY37 HB37 HP37 HT37 g1 g2
      refine hK.out _ _ ⟨HB39.out, HX39.out, HZ39.out⟩ ?_
      clear hK K
      try simp only [Act.put, List.setIfInBounds_toArray, List.set_cons_zero, List.set_cons_succ]
      refine wpTr_one ?_
      refine stepTr_K (by simp only [List.getElem?_toArray, List.getElem?_cons_zero, List.getElem?_cons_succ]; rfl) (by rfl) (fun K hK => ?_)
      obtain ⟨y0, y1, y2⟩ := HY39.out.cells3
      obtain ⟨z0, z1, z2⟩ := HY39.out.free3
      have hly := HY39.out.lt
      go_simp
      clear y0 y1 y2 z0 z1 z2
      refine hK.out _ _ ⟨below_set3 HB39.out (by omega) _ _ _, HX39.out.far3 (by omega) _ _ _, HZ39.out.far3 (by omega) _ _ _⟩ ?_
      clear hK K
      try simp only [Act.put, List.setIfInBounds_toArray, List.set_cons_zero, List.set_cons_succ]
      repeat (first
        | (refine wpTr_fskip (by simp only [List.getElem?_toArray, List.getElem?_cons_zero, List.getElem?_cons_succ]; rfl) (by rfl) ?_
           simp only [Act.put, List.setIfInBounds_toArray, List.set_cons_zero, List.set_cons_succ])
        | (refine wpTr_float (v := ?_) (by simp only [List.getElem?_toArray, List.getElem?_cons_zero, List.getElem?_cons_succ]; rfl) (by rfl) (fun w' hS => ?_) ?_
           rotate_left
           (obtain ⟨hSb, hSk, hSz⟩ := hS; obtain ⟨e0, e1, e2⟩ := hSk.cells3; obtain ⟨e3, e4, e5⟩ := hSz.cells3; have hls := hSk.lt; have hlz := hSz.lt; go_simp; first | done | rfl)
           simp only [Act.put, List.setIfInBounds_toArray, List.set_cons_zero, List.set_cons_succ]))
      refine wpTr_done ?_
      go_wp2
      obtain ⟨q0, q1, q2⟩ := (Blk.set3 (a := .slice B1 (add14 Pl.nil seq).C.length b1) (b := .slice B2 (add14 Pl.nil seq).S.length b2) (c := .slice B3 (add14 Pl.nil seq).L.length b3) HY39.out).cells3
      refine bodyPost_ret (v := .tuple #[.agg #[.slice B1 (add14 Pl.nil seq).C.length b1, .slice B2 (add14 Pl.nil seq).S.length b2, .slice B3 (add14 Pl.nil seq).L.length b3], .int .i64 (0 : Int)]) (by simp [results, Try.results17, go_sem, q0, q1, q2]) rfl ?_
      exact ⟨B1, b1, B2, b2, B3, b3, rfl, PlAt.apart3 HR39.out HY39.out _ _ _, below_set3 HB39.out (by omega) _ _ _⟩
  · refine stepTr_K (by simp only [List.getElem?_toArray, List.getElem?_cons_zero, List.getElem?_cons_succ]; rfl) (by rfl) (fun K hK => ?_)
    go_simp
    obtain ⟨b40, hv, hbb, hbk⟩ : ∃ v, v = d2.alloc (.cells #[.slice none 0 0, .slice none 0 0, .slice none 0 0] 27) ∧ Below d2.heap.size d2 v ∧ Blk v d2.heap.size 27 #[.slice none 0 0, .slice none 0 0, .slice none 0 0] := ⟨_, rfl, (Below.refl _ _).alloc (Nat.le_refl _) _, Blk.new _ _ _⟩
    rw [← hv]
    clear hv
    have hge := HY3.out.lt
    obtain ⟨t6, ht6⟩ : ∃ t6, t6 = d2.heap.size := ⟨_, rfl⟩
    rw [← ht6] at hbk ⊢
    have h6 : w.heap.size + 1 < t6 := by omega
    have hbc := hbb
    have HX41 := Lib.hid (HX3.out.after hbc)
    have HY41 := Lib.hid (HY3.out.after hbc)
    have HB41 := Lib.hid (below_then HB3.out hbc (Nat.le_refl _))
    have HP41 := Lib.hid ((HP3.out.below hbc).lt)
    have HT41 := Lib.hid ((HT3.out.below hbc).lt)
    have HZ41 := Lib.hid (hbk)
    clear hbc HX3 HY3 HB3 HP3 HT3 hbb hbk hge ht6
    refine hK.out _ _ ⟨HB41.out, HX41.out⟩ ?_
    clear hK K
    try simp only [Act.put, List.setIfInBounds_toArray, List.set_cons_zero, List.set_cons_succ]
    refine wpTr_one ?_
    refine stepTr_K (by simp only [List.getElem?_toArray, List.getElem?_cons_zero, List.getElem?_cons_succ]; rfl) (by rfl) (fun K hK => ?_)
    go_simp
    refine (copied_q none 0 0 ([] : List Int) _ HP41.out.r1 rfl (by first | omega | simp)).mono ?_
    rintro e a42 ⟨D0, d0, rfl, x0, m0, g3, g4⟩
    have hbc := g4
    have HX43 := Lib.hid (HX41.out.after hbc)
    have HY43 := Lib.hid (HY41.out.after hbc)
    have HB43 := Lib.hid (below_then HB41.out hbc (Nat.le_refl _))
    have HP43 := Lib.hid ((HP41.out.below hbc).lt)
    have HT43 := Lib.hid ((HT41.out.below hbc).lt)
    have HZ43 := Lib.hid (HZ41.out.after hbc)
    have RD043 := Lib.hid (g3)
    clear hbc HX41 HY41 HB41 HP41 HT41 HZ41 g3 g4
    refine hK.out _ _ ⟨HB43.out, HX43.out⟩ ?_
    clear hK K
    try simp only [Act.put, List.setIfInBounds_toArray, List.set_cons_zero, List.set_cons_succ]
    refine wpTr_one ?_
    refine stepTr_K (by simp only [List.getElem?_toArray, List.getElem?_cons_zero, List.getElem?_cons_succ]; rfl) (by rfl) (fun K hK => ?_)
    go_simp
    refine (copied_q none 0 0 ([] : List Int) _ HP43.out.r2 rfl (by first | omega | simp)).mono ?_
    rintro e a44 ⟨D1, d1, rfl, x1, m1, g3, g4⟩
    have hbc := g4
    have HX45 := Lib.hid (HX43.out.after hbc)
    have HY45 := Lib.hid (HY43.out.after hbc)
    have HB45 := Lib.hid (below_then HB43.out hbc (Nat.le_refl _))
    have HP45 := Lib.hid ((HP43.out.below hbc).lt)
    have HT45 := Lib.hid ((HT43.out.below hbc).lt)
    have HZ45 := Lib.hid (HZ43.out.after hbc)
    have RD045 := Lib.hid ((RD043.out.below hbc).lt)
    have RD145 := Lib.hid (g3)
    clear hbc HX43 HY43 HB43 HP43 HT43 HZ43 RD043 g3 g4
    refine hK.out _ _ ⟨HB45.out, HX45.out⟩ ?_
    clear hK K
    try simp only [Act.put, List.setIfInBounds_toArray, List.set_cons_zero, List.set_cons_succ]
    refine wpTr_one ?_
    refine stepTr_K (by simp only [List.getElem?_toArray, List.getElem?_cons_zero, List.getElem?_cons_succ]; rfl) (by rfl) (fun K hK => ?_)
    go_simp
    refine (copied_q none 0 0 ([] : List Int) _ HP45.out.r3 rfl (by first | omega | simp)).mono ?_
    rintro e a46 ⟨D2, d2, rfl, x2, m2, g3, g4⟩
    have hbc := g4
    have HX47 := Lib.hid (HX45.out.after hbc)
    have HY47 := Lib.hid (HY45.out.after hbc)
    have HB47 := Lib.hid (below_then HB45.out hbc (Nat.le_refl _))
    have HP47 := Lib.hid ((HP45.out.below hbc).lt)
    have HT47 := Lib.hid ((HT45.out.below hbc).lt)
    have HZ47 := Lib.hid (HZ45.out.after hbc)
    have RD047 := Lib.hid ((RD045.out.below hbc).lt)
    have RD147 := Lib.hid ((RD145.out.below hbc).lt)
    have RD247 := Lib.hid (g3)
    clear hbc HX45 HY45 HB45 HP45 HT45 HZ45 RD045 RD145 g3 g4
    refine hK.out _ _ ⟨HB47.out, HX47.out⟩ ?_
    clear hK K
    try simp only [Act.put, List.setIfInBounds_toArray, List.set_cons_zero, List.set_cons_succ]
    repeat (first
      | (refine wpTr_fskip (by simp only [List.getElem?_toArray, List.getElem?_cons_zero, List.getElem?_cons_succ]; rfl) (by rfl) ?_
         simp only [Act.put, List.setIfInBounds_toArray, List.set_cons_zero, List.set_cons_succ])
      | (refine wpTr_float (v := ?_) (by simp only [List.getElem?_toArray, List.getElem?_cons_zero, List.getElem?_cons_succ]; rfl) (by rfl) (fun w' hS => ?_) ?_
         rotate_left
         (obtain ⟨hSb, hSk⟩ := hS; obtain ⟨e0, e1, e2⟩ := hSk.cells3; have hls := hSk.lt; go_simp; first | done | rfl)
         simp only [Act.put, List.setIfInBounds_toArray, List.set_cons_zero, List.set_cons_succ]))
    refine wpTr_one ?_
    refine stepTr_K (by simp only [List.getElem?_toArray, List.getElem?_cons_zero, List.getElem?_cons_succ]; rfl) (by rfl) (fun K hK => ?_)
    obtain ⟨y0, y1, y2⟩ := HZ47.out.cells3
    obtain ⟨z0, z1, z2⟩ := HZ47.out.free3
    have hlz := HZ47.out.lt
    go_simp
    clear y0 y1 y2 z0 z1 z2
    refine hK.out _ _ ⟨below_set3 HB47.out (by omega) _ _ _, HX47.out.far3 (by omega) _ _ _⟩ ?_
    clear hK K
    try simp only [Act.put, List.setIfInBounds_toArray, List.set_cons_zero, List.set_cons_succ]
    refine wpTr_done ?_
    obtain ⟨s48, hv, bZ, bX, bY, bB, bP, bT⟩ : ∃ v, v = (((a46.setCell ⟨t6, 0, none⟩ (.slice D0 ([] : List Int).length d0)).setCell ⟨t6, 1, none⟩ (.slice D1 ([] : List Int).length d1)).setCell ⟨t6, 2, none⟩ (.slice D2 ([] : List Int).length d2)) ∧ Blk v t6 27 #[.slice D0 ([] : List Int).length d0, .slice D1 ([] : List Int).length d1, .slice D2 ([] : List Int).length d2] ∧ Blk v w.heap.size 27 #[.slice none 0 0, .slice none 0 0, .slice none 0 0] ∧ Blk v (w.heap.size + 1) 27 #[.slice none 0 0, .slice none 0 0, .slice none 0 0] ∧ Below w.heap.size w v ∧ PlAt v v.heap.size D0 d0 D1 d1 D2 d2 Pl.nil ∧ Row v v.heap.size A (ints seq) :=
      ⟨_, rfl, Blk.set3 HZ47.out, HX47.out.far3 (by omega) _ _ _, HY47.out.far3 (by omega) _ _ _, below_set3 HB47.out (by omega) _ _ _, PlAt.apart3 ⟨x0, m0, RD047.out, x1, m1, RD147.out, x2, m2, RD247.out⟩ HZ47.out _ _ _, by rw [size3]; exact Row.apart3 HT47.out HZ47.out _ _ _⟩
    try simp only [List.length_nil] at hv bZ
    try rw [← hv]
    clear hv HX47 HY47 HB47 HP47 HT47 HZ47 RD047 RD147 RD247
    have HZ49 := Lib.hid bZ
    have HX49 := Lib.hid bX
    have HY49 := Lib.hid bY
    have HB49 := Lib.hid bB
    have HP49 := Lib.hid bP
    have HT49 := Lib.hid bT
    clear bZ bX bY bB bP bT
    go_wp2_with fail
    refine wp_region_tree (fun w' => Below w.heap.size w w' ∧ Blk w' w.heap.size 27 #[.slice none 0 0, .slice none 0 0, .slice none 0 0] ∧ Blk w' t6 27 #[.slice D0 ([] : List Int).length d0, .slice D1 ([] : List Int).length d1, .slice D2 ([] : List Int).length d2]) (.float 0 (.float 1 (.float 3 (.float 4 (.float 5 (.one 2 (.one 6 (.float 7 .done)))))))) (by kernel_rfl) (by kernel_rfl) (fun _ _ d _ _ h => by cases d <;> exact h) ⟨HB49.out.drew, HX49.out.drew, HZ49.out.drew⟩ ?_
    obtain ⟨d50, hdr, hbd⟩ : ∃ d, d = s48.drew ∧ Below s48.heap.size s48 d := ⟨_, rfl, (Below.refl _ _).drew⟩
    rw [← hdr]
    clear hdr
    have hbc := hbd
    have HZ51 := Lib.hid (HZ49.out.after hbc)
    have HX51 := Lib.hid (HX49.out.after hbc)
    have HY51 := Lib.hid (HY49.out.after hbc)
    have HB51 := Lib.hid (below_then HB49.out hbc (Nat.le_refl _))
    have HP51 := Lib.hid ((HP49.out.below hbc).lt)
    have HT51 := Lib.hid ((HT49.out.below hbc).lt)
    clear hbc HZ49 HX49 HY49 HB49 HP49 HT49 hbd
    repeat (first
      | (refine wpTr_fskip (by simp only [List.getElem?_toArray, List.getElem?_cons_zero, List.getElem?_cons_succ]; rfl) (by rfl) ?_
         simp only [Act.put, List.setIfInBounds_toArray, List.set_cons_zero, List.set_cons_succ])
      | (refine wpTr_float (v := ?_) (by simp only [List.getElem?_toArray, List.getElem?_cons_zero, List.getElem?_cons_succ]; rfl) (by rfl) (fun w' hS => ?_) ?_
         rotate_left
         (obtain ⟨hSb, hSk, hSz⟩ := hS; obtain ⟨e0, e1, e2⟩ := hSk.cells3; obtain ⟨e3, e4, e5⟩ := hSz.cells3; have hls := hSk.lt; have hlz := hSz.lt; go_simp; first | done | rfl)
         simp only [Act.put, List.setIfInBounds_toArray, List.set_cons_zero, List.set_cons_succ]))
    refine wpTr_one ?_
    refine stepTr_K (by simp only [List.getElem?_toArray, List.getElem?_cons_zero, List.getElem?_cons_succ]; rfl) (by rfl) (fun K hK => ?_)
    go_simp
    refine (add_any D0 D1 D2 A d0 d1 d2 c _ Pl.nil seq _ HP51.out HT51.out (Nat.le_refl _) lc lm (by simp [Pl.nil]; omega) (by simp [Pl.nil]) (by simp [Pl.nil])).mono ?_
    rintro e a52 ⟨B1, b1, B2, b2, B3, b3, rfl, g1, g2⟩
    have hbc := g2
    have HZ53 := Lib.hid (HZ51.out.after hbc)
    have HX53 := Lib.hid (HX51.out.after hbc)
    have HY53 := Lib.hid (HY51.out.after hbc)
    have HB53 := Lib.hid (below_then HB51.out hbc (Nat.le_refl _))
    have HP53 := Lib.hid ((HP51.out.below hbc).lt)
    have HT53 := Lib.hid ((HT51.out.below hbc).lt)
    have HR53 := Lib.hid (g1)
    clear hbc HZ51 HX51 HY51 HB51 HP51 HT51 g1 g2
    refine hK.out _ _ ⟨HB53.out, HX53.out, HZ53.out⟩ ?_
    clear hK K
    try simp only [Act.put, List.setIfInBounds_toArray, List.set_cons_zero, List.set_cons_succ]
    refine wpTr_one ?_
    refine stepTr_K (by simp only [List.getElem?_toArray, List.getElem?_cons_zero, List.getElem?_cons_succ]; rfl) (by rfl) (fun K hK => ?_)
    obtain ⟨y0, y1, y2⟩ := HY53.out.cells3
    obtain ⟨z0, z1, z2⟩ := HY53.out.free3
    have hly := HY53.out.lt
    go_simp
    clear y0 y1 y2 z0 z1 z2
    refine hK.out _ _ ⟨below_set3 HB53.out (by omega) _ _ _, HX53.out.far3 (by omega) _ _ _, HZ53.out.far3 (by omega) _ _ _⟩ ?_
    clear hK K
    try simp only [Act.put, List.setIfInBounds_toArray, List.set_cons_zero, List.set_cons_succ]
    repeat (first
      | (refine wpTr_fskip (by simp only [List.getElem?_toArray, List.getElem?_cons_zero, List.getElem?_cons_succ]; rfl) (by rfl) ?_
         simp only [Act.put, List.setIfInBounds_toArray, List.set_cons_zero, List.set_cons_succ])
      | (refine wpTr_float (v := ?_) (by simp only [List.getElem?_toArray, List.getElem?_cons_zero, List.getElem?_cons_succ]; rfl) (by rfl) (fun w' hS => ?_) ?_
         rotate_left
         (obtain ⟨hSb, hSk, hSz⟩ := hS; obtain ⟨e0, e1, e2⟩ := hSk.cells3; obtain ⟨e3, e4, e5⟩ := hSz.cells3; have hls := hSk.lt; have hlz := hSz.lt; go_simp; first | done | rfl)
         simp only [Act.put, List.setIfInBounds_toArray, List.set_cons_zero, List.set_cons_succ]))
    refine wpTr_done ?_
    go_wp2
    obtain ⟨q0, q1, q2⟩ := (Blk.set3 (a := .slice B1 (add14 Pl.nil seq).C.length b1) (b := .slice B2 (add14 Pl.nil seq).S.length b2) (c := .slice B3 (add14 Pl.nil seq).L.length b3) HY53.out).cells3
    refine bodyPost_ret (v := .tuple #[.agg #[.slice B1 (add14 Pl.nil seq).C.length b1, .slice B2 (add14 Pl.nil seq).S.length b2, .slice B3 (add14 Pl.nil seq).L.length b3], .int .i64 (0 : Int)]) (by simp [results, Try.results17, go_sem, q0, q1, q2]) rfl ?_
    exact ⟨B1, b1, B2, b2, B3, b3, rfl, PlAt.apart3 HR53.out HY53.out _ _ _, below_set3 HB53.out (by omega) _ _ _⟩
theorem addP_any (C S L A : Option Addr) (cC cS cL c : Nat) (p : Pl) (seq : List Int) (w : World) (hp : PlAt w w.heap.size C cC S cS L cL p) (hf : Fine p) (hq : Row w w.heap.size A (ints seq)) (lc : seq.length ≤ c) (lm : c ≤ maxLen) (hl : seq.length ≤ 5000) (q : Pl) (hqp : own14 p = q) :
    Calls Try.prog 17 #[.agg #[.slice C p.C.length cC, .slice S p.S.length cS, .slice L p.L.length cL], .slice A seq.length c] w (RetPoolN w (add14 q seq) q.S.length) := by
  cases hv : vld14 p with
  | true =>
    have : q = p := by rw [← hqp, own14, if_pos hv]
    rw [this]
    exact addP_yes C S L A cC cS cL c p seq w hp hf hq lc lm hl hv
  | false =>
    have : q = Pl.nil := by rw [← hqp, own14, if_neg (by rw [hv]; simp)]
    rw [this]
    exact addP_no C S L A cC cS cL c p seq w hp hf hq lc lm hl hv
end Go.Proofs.Yteobffcnfigilaa
