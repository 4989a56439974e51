/-
  seqpool.add: a walk, for any pool.
-/
import Derived.Test.YteobffcnfigilaaProg
import Derived.Test.YteobffcnfigilaaBase
import Derived.Test.YteobffcnfigilaaApp
import Derived.Test.YteobffcnfigilaaTree
import Derived.Test.YteobffcnfigilaaSp0
import Derived.Test.YteobffcnfigilaaSp1
import Derived.Test.YteobffcnfigilaaSp2
import Derived.WalkKit
import Derived.KernelRfl
import Derived.Outline
namespace Go.Proofs.Yteobffcnfigilaa
open Go.RowKit Go.UtYteobffcnfigilaa
attribute [local go_sem high] cut_l cut_lh cut_lhm cutA_zero
attribute [local go_sem 500] cut_any
/-- a pool in memory -/
structure PlAt (w : World) (B : Nat) (A1 : Option Addr) (c1 : Nat) (A2 : Option Addr) (c2 : Nat) (A3 : Option Addr) (c3 : Nat) (p : Pl) : Prop where
  l1 : p.C.length ≤ c1
  m1 : c1 ≤ maxLen
  r1 : Row w B A1 (ints p.C)
  l2 : p.S.length ≤ c2
  m2 : c2 ≤ maxLen
  r2 : Row w B A2 (ints p.S)
  l3 : p.L.length ≤ c3
  m3 : c3 ≤ maxLen
  r3 : Row w B A3 (ints p.L)
def RetPool (w : World) (p : Pl) (e : Ending) (w' : World) : Prop :=
  ∃ A1 c1 A2 c2 A3 c3, e = .returned (.agg #[.slice A1 p.C.length c1, .slice A2 p.S.length c2, .slice A3 p.L.length c3]) ∧ PlAt w' w'.heap.size A1 c1 A2 c2 A3 c3 p ∧ Below w.heap.size w w'
theorem PlAt.below {w w' : World} {B : Nat} {A1 A2 A3 : Option Addr} {c1 c2 c3 : Nat} {p : Pl} (h : PlAt w B A1 c1 A2 c2 A3 c3 p) (hb : Below B w w') : PlAt w' B A1 c1 A2 c2 A3 c3 p :=
  ⟨h.l1, h.m1, h.r1.below hb, h.l2, h.m2, h.r2.below hb, h.l3, h.m3, h.r3.below hb⟩
theorem PlAt.lt {w : World} {B : Nat} {A1 A2 A3 : Option Addr} {c1 c2 c3 : Nat} {p : Pl} (h : PlAt w B A1 c1 A2 c2 A3 c3 p) : PlAt w w.heap.size A1 c1 A2 c2 A3 c3 p :=
  ⟨h.l1, h.m1, h.r1.lt, h.l2, h.m2, h.r2.lt, h.l3, h.m3, h.r3.lt⟩
theorem named {p : World → Prop} {w : World} (h : p w) : ∃ w', w' = w ∧ p w' := ⟨w, rfl, h⟩
/-- rows of integers are no part of a block that holds slices -/
theorem Row.apart3 {w : World} {B g : Nat} {A : Option Addr} {xs : List Int} {T : TypeId} {v1 v2 v3 : Option Addr} {n1 n2 n3 d1 d2 d3 : Nat} (h : Row w B A (ints xs)) (hb : Blk w g T #[.slice v1 n1 d1, .slice v2 n2 d2, .slice v3 n3 d3]) (a b c : Value) :
    Row (((w.setCell ⟨g, 0, none⟩ a).setCell ⟨g, 1, none⟩ b).setCell ⟨g, 2, none⟩ c) B A (ints xs) := fun hv => by
  obtain ⟨b', o, e, hlt, hc⟩ := h hv
  have hne : b' ≠ g := fun e2 => by
    subst e2
    have hpos : 0 < (ints xs).length := List.length_pos_iff.2 hv
    obtain ⟨x, hx⟩ : ∃ x, (ints xs)[0]? = some (.int .i64 x) := by
      rw [ints_len] at hpos
      exact ⟨xs[0], by simp [ints, List.getElem?_eq_getElem hpos]⟩
    have h1 := hc 0 _ hx
    rw [hb.cell] at h1
    match o with
    | 0 => simp at h1
    | 1 => simp at h1
    | 2 => simp at h1
    | o + 3 => simp at h1
  refine ⟨b', o, e, hlt, fun k v hk => ?_⟩
  rw [World.cell?_setCell_other _ _ _ _ (by intro e2; injection e2; omega), World.cell?_setCell_other _ _ _ _ (by intro e2; injection e2; omega), World.cell?_setCell_other _ _ _ _ (by intro e2; injection e2; omega)]
  exact hc k v hk
theorem Blk.at_new {w : World} {g : Nat} {t : TypeId} {cs : Array Value} (h : g = w.heap.size) : Blk (w.alloc (.cells cs t)) g t cs := by
  subst h
  exact Blk.new w t cs
theorem size3 {w : World} {g : Nat} {a b c : Value} : (((w.setCell ⟨g, 0, none⟩ a).setCell ⟨g, 1, none⟩ b).setCell ⟨g, 2, none⟩ c).heap.size = w.heap.size := by simp
theorem ints_row1 {w : World} {g : Nat} {t : TypeId} {x : Int} (h : Blk w g t #[.int .i64 x]) : Row w w.heap.size (some ⟨g, 0, none⟩) (ints [x]) := h.row rfl
set_option maxHeartbeats 2000000 in
theorem add_any (C S L A : Option Addr) (cC cS cL c B : Nat) (p : Pl) (seq : List Int) (w : World) (hp : PlAt w B C cC S cS L cL p) (hq : Row w B A (ints seq)) (hB : B ≤ w.heap.size) (lc : seq.length ≤ c) (lm : c ≤ maxLen)
    (hl : p.C.length + seq.length ≤ 65536) (hl2 : p.S.length ≤ 60000) (hl3 : p.L.length ≤ 60000) :
    Calls Try.prog 26 #[.agg #[.slice C p.C.length cC, .slice S p.S.length cS, .slice L p.L.length cL], .slice A seq.length c] w (RetPool w (add14 p seq)) := by
  have HS0 := Lib.hid hp
  have HQ := Lib.hid hq
  clear hp hq
  go_enter Try.func26, Try.ntmps26
  go_wp2_with fail
  obtain ⟨v, hv, bX, bY, bB⟩ : ∃ v, v = (w.alloc (.cells #[.slice C p.C.length cC, .slice S p.S.length cS, .slice L p.L.length cL] 27)).alloc (.cells #[.slice none 0 0, .slice none 0 0, .slice none 0 0] 27) ∧
      Blk v w.heap.size 27 #[.slice C p.C.length cC, .slice S p.S.length cS, .slice L p.L.length cL] ∧ Blk v (w.heap.size + 1) 27 #[.slice none 0 0, .slice none 0 0, .slice none 0 0] ∧ Below w.heap.size w v :=
    ⟨_, rfl, (Blk.new _ _ _).alloc _, Blk.at_new (by simp), ((Below.refl _ _).alloc (Nat.le_refl _) _).alloc (by simp) _⟩
  rw [← hv]
  have HX0 := Lib.hid bX
  have HY0 := Lib.hid bY
  have HB0 := Lib.hid bB
  have HP0 := Lib.hid (HS0.out.below (bB.mono hB)).lt
  have HT0 := Lib.hid (HQ.out.below (bB.mono hB)).lt
  clear hv bX bY bB HS0 HQ
  refine (place_any C A cC c _ p.C seq _ HP0.out.r1 HT0.out HP0.out.l1 HP0.out.m1 lc lm (by omega)).mono ?_
  rintro e v1 ⟨A1, c1, rfl, g1, gm, g3, g4⟩
  have hbc := g4
  have HX1 := Lib.hid (HX0.out.after hbc)
  have HY1 := Lib.hid (HY0.out.after hbc)
  have HB1 := Lib.hid (below_then HB0.out hbc (Nat.le_refl _))
  have HP1 := Lib.hid ((HP0.out.below hbc).lt)
  have HT1 := Lib.hid ((HT0.out.below hbc).lt)
  have RC1 := Lib.hid (g3)
  clear hbc HX0 HY0 HB0 HP0 HT0 g3 g4
  have G1 := Lib.hid g1
  clear g1
  obtain ⟨e0, e1, e2⟩ := HX1.out.cells3
  have hlx := HX1.out.lt
  go_wp2_with fail
  clear e0 e1 e2
  refine wp_region_tree (fun w' => Below w.heap.size w w' ∧ Blk w' w.heap.size 27 #[.slice C p.C.length cC, .slice S p.S.length cS, .slice L p.L.length cL]) (.float 0 (.float 1 (.float 2 (.float 3 (.float 6 (.float 7 (.float 8 (.float 9 (.two 4 (.two 5 (.one 10 (.one 11 (.float 12 (.one 13 .done)))) 10 (.one 5 (.one 11 (.float 12 (.one 13 .done))))) 10 (.one 4 (.one 5 (.one 11 (.float 12 (.one 13 .done)))))))))))))) (by kernel_rfl) (by kernel_rfl) (fun _ _ d _ _ h => by cases d <;> exact h) ⟨HB1.out.drew, HX1.out.drew⟩ ?_
  obtain ⟨d2, hdr, hbd⟩ : ∃ d, d = v1.drew ∧ Below v1.heap.size v1 d := ⟨_, rfl, (Below.refl _ _).drew⟩
  rw [← hdr]
  clear hdr
  have hbc := hbd
  have HX3 := Lib.hid (HX1.out.after hbc)
  have HY3 := Lib.hid (HY1.out.after hbc)
  have HB3 := Lib.hid (below_then HB1.out hbc (Nat.le_refl _))
  have HP3 := Lib.hid ((HP1.out.below hbc).lt)
  have HT3 := Lib.hid ((HT1.out.below hbc).lt)
  have RC3 := Lib.hid ((RC1.out.below hbc).lt)
  clear hbc HX1 HY1 HB1 HP1 HT1 RC1 hbd
  repeat (first
    | (refine wpTr_fskip (by simp only [List.getElem?_toArray, List.getElem?_cons_zero, List.getElem?_cons_succ]; rfl) (by rfl) ?_
       simp only [Act.put, List.setIfInBounds_toArray, List.set_cons_zero, List.set_cons_succ])
    | (refine wpTr_float (v := ?_) (by simp only [List.getElem?_toArray, List.getElem?_cons_zero, List.getElem?_cons_succ]; rfl) (by rfl) (fun w' hS => ?_) ?_
       rotate_left
       (obtain ⟨hSb, hSk⟩ := hS; obtain ⟨e0, e1, e2⟩ := hSk.cells3; have hls := hSk.lt; go_simp; first | done | rfl)
       simp only [Act.put, List.setIfInBounds_toArray, List.set_cons_zero, List.set_cons_succ]))
  refine wpTr_two ?_ ?_
  · refine stepTr_K (by simp only [List.getElem?_toArray, List.getElem?_cons_zero, List.getElem?_cons_succ]; rfl) (by rfl) (fun K hK => ?_)
    go_simp
    obtain ⟨b4, hv, hbb, hbk⟩ : ∃ v, v = d2.alloc (.cells #[.int .i64 (fst14 p.C seq : Int)] 3) ∧ Below d2.heap.size d2 v ∧ Blk v d2.heap.size 3 #[.int .i64 (fst14 p.C seq : Int)] := ⟨_, rfl, (Below.refl _ _).alloc (Nat.le_refl _) _, Blk.new _ _ _⟩
    rw [← hv]
    clear hv
    have hbc := hbb
    have HX5 := Lib.hid (HX3.out.after hbc)
    have HY5 := Lib.hid (HY3.out.after hbc)
    have HB5 := Lib.hid (below_then HB3.out hbc (Nat.le_refl _))
    have HP5 := Lib.hid ((HP3.out.below hbc).lt)
    have HT5 := Lib.hid ((HT3.out.below hbc).lt)
    have RC5 := Lib.hid ((RC3.out.below hbc).lt)
    have N25 := Lib.hid (ints_row1 hbk)
    clear hbc HX3 HY3 HB3 HP3 HT3 RC3 hbb hbk
    refine hK.out _ _ ⟨HB5.out, HX5.out⟩ ?_
    clear hK K
    try simp only [Act.put, List.setIfInBounds_toArray, List.set_cons_zero, List.set_cons_succ]
    refine wpTr_two ?_ ?_
    · refine stepTr_K (by simp only [List.getElem?_toArray, List.getElem?_cons_zero, List.getElem?_cons_succ]; rfl) (by rfl) (fun K hK => ?_)
      go_simp
      refine (appended_n S (some ⟨d2.heap.size, 0, none⟩) _ _ cS _ _ p.S [(fst14 p.C seq : Int)] (p.S ++ [(fst14 p.C seq : Int)]) _ HP5.out.r2 N25.out rfl rfl rfl HP5.out.l2 (by simp; omega)).mono ?_
      rintro e a6 ⟨AR2, cR2, rfl, g1R2, g2R2, g3, g4⟩
      have hbc := g4
      have HX7 := Lib.hid (HX5.out.after hbc)
      have HY7 := Lib.hid (HY5.out.after hbc)
      have HB7 := Lib.hid (below_then HB5.out hbc (Nat.le_refl _))
      have HP7 := Lib.hid ((HP5.out.below hbc).lt)
      have HT7 := Lib.hid ((HT5.out.below hbc).lt)
      have RC7 := Lib.hid ((RC5.out.below hbc).lt)
      have N27 := Lib.hid ((N25.out.below hbc).lt)
      have R27 := Lib.hid (g3)
      clear hbc HX5 HY5 HB5 HP5 HT5 RC5 N25 g3 g4
      have G1R2 := Lib.hid g1R2
      clear g1R2
      refine hK.out _ _ ⟨HB7.out, HX7.out⟩ ?_
      clear hK K
      try simp only [Act.put, List.setIfInBounds_toArray, List.set_cons_zero, List.set_cons_succ]
      refine wpTr_one ?_
      refine stepTr_K (by simp only [List.getElem?_toArray, List.getElem?_cons_zero, List.getElem?_cons_succ]; rfl) (by rfl) (fun K hK => ?_)
      go_simp
      obtain ⟨b8, hv, hbb, hbk⟩ : ∃ v, v = a6.alloc (.cells #[.int .i64 (seq.length : Int)] 3) ∧ Below a6.heap.size a6 v ∧ Blk v a6.heap.size 3 #[.int .i64 (seq.length : Int)] := ⟨_, rfl, (Below.refl _ _).alloc (Nat.le_refl _) _, Blk.new _ _ _⟩
      rw [← hv]
      clear hv
      have hbc := hbb
      have HX9 := Lib.hid (HX7.out.after hbc)
      have HY9 := Lib.hid (HY7.out.after hbc)
      have HB9 := Lib.hid (below_then HB7.out hbc (Nat.le_refl _))
      have HP9 := Lib.hid ((HP7.out.below hbc).lt)
      have HT9 := Lib.hid ((HT7.out.below hbc).lt)
      have RC9 := Lib.hid ((RC7.out.below hbc).lt)
      have N29 := Lib.hid ((N27.out.below hbc).lt)
      have R29 := Lib.hid ((R27.out.below hbc).lt)
      have N39 := Lib.hid (ints_row1 hbk)
      clear hbc HX7 HY7 HB7 HP7 HT7 RC7 N27 R27 hbb hbk
      refine hK.out _ _ ⟨HB9.out, HX9.out⟩ ?_
      clear hK K
      try simp only [Act.put, List.setIfInBounds_toArray, List.set_cons_zero, List.set_cons_succ]
      refine wpTr_one ?_
      refine stepTr_K (by simp only [List.getElem?_toArray, List.getElem?_cons_zero, List.getElem?_cons_succ]; rfl) (by rfl) (fun K hK => ?_)
      go_simp
      refine (appended_n L (some ⟨a6.heap.size, 0, none⟩) _ _ cL _ _ p.L [(seq.length : Int)] (p.L ++ [(seq.length : Int)]) _ HP9.out.r3 N39.out rfl rfl rfl HP9.out.l3 (by simp; omega)).mono ?_
      rintro e a10 ⟨AR3, cR3, rfl, g1R3, g2R3, g3, g4⟩
      have hbc := g4
      have HX11 := Lib.hid (HX9.out.after hbc)
      have HY11 := Lib.hid (HY9.out.after hbc)
      have HB11 := Lib.hid (below_then HB9.out hbc (Nat.le_refl _))
      have HP11 := Lib.hid ((HP9.out.below hbc).lt)
      have HT11 := Lib.hid ((HT9.out.below hbc).lt)
      have RC11 := Lib.hid ((RC9.out.below hbc).lt)
      have N211 := Lib.hid ((N29.out.below hbc).lt)
      have R211 := Lib.hid ((R29.out.below hbc).lt)
      have N311 := Lib.hid ((N39.out.below hbc).lt)
      have R311 := Lib.hid (g3)
      clear hbc HX9 HY9 HB9 HP9 HT9 RC9 N29 R29 N39 g3 g4
      have G1R3 := Lib.hid g1R3
      clear g1R3
      refine hK.out _ _ ⟨HB11.out, HX11.out⟩ ?_
      clear hK K
      try simp only [Act.put, List.setIfInBounds_toArray, List.set_cons_zero, List.set_cons_succ]
      repeat (first
        | (refine wpTr_fskip (by simp only [List.getElem?_toArray, List.getElem?_cons_zero, List.getElem?_cons_succ]; rfl) (by rfl) ?_
           simp only [Act.put, List.setIfInBounds_toArray, List.set_cons_zero, List.set_cons_succ])
        | (refine wpTr_float (v := ?_) (by simp only [List.getElem?_toArray, List.getElem?_cons_zero, List.getElem?_cons_succ]; rfl) (by rfl) (fun w' hS => ?_) ?_
           rotate_left
           (obtain ⟨hSb, hSk⟩ := hS; obtain ⟨e0, e1, e2⟩ := hSk.cells3; have hls := hSk.lt; go_simp; first | done | rfl)
           simp only [Act.put, List.setIfInBounds_toArray, List.set_cons_zero, List.set_cons_succ]))
      refine wpTr_one ?_
      refine stepTr_K (by simp only [List.getElem?_toArray, List.getElem?_cons_zero, List.getElem?_cons_succ]; rfl) (by rfl) (fun K hK => ?_)
      obtain ⟨y0, y1, y2⟩ := HY11.out.cells3
      obtain ⟨z0, z1, z2⟩ := HY11.out.free3
      have hly := HY11.out.lt
      go_simp
      clear y0 y1 y2 z0 z1 z2
      refine hK.out _ _ ⟨below_set3 HB11.out (by omega) _ _ _, HX11.out.far3 (by omega) _ _ _⟩ ?_
      clear hK K
      try simp only [Act.put, List.setIfInBounds_toArray, List.set_cons_zero, List.set_cons_succ]
      refine wpTr_done ?_
      go_wp2
      refine bodyPost_ret (v := .agg #[.slice A1 (put14 p.C seq).length c1, .slice AR2 (p.S ++ [(fst14 p.C seq : Int)]).length cR2, .slice AR3 (p.L ++ [(seq.length : Int)]).length cR3]) ?_ rfl ?_
      · have HY3 := ((HY11.out.set_ 0 (.slice A1 (put14 p.C seq).length c1)).set_ 1 (.slice AR2 (p.S ++ [(fst14 p.C seq : Int)]).length cR2)).set_ 2 (.slice AR3 (p.L ++ [(seq.length : Int)]).length cR3)
        obtain ⟨q0, q1, q2⟩ := HY3.cells3
        simp only [List.length_append, List.length_cons, List.length_nil] at q0 q1 q2 ⊢
        simp [results, Try.results26, go_sem, q0, q1, q2]
      · refine ⟨A1, c1, AR2, cR2, AR3, cR3, rfl, ?_, below_set3 HB11.out (by omega) _ _ _⟩
        exact ⟨G1.out, gm, by rw [size3]; exact Row.apart3 RC11.out HY11.out _ _ _, G1R2.out, g2R2, by rw [size3]; exact Row.apart3 R211.out HY11.out _ _ _, G1R3.out, g2R3, by rw [size3]; exact Row.apart3 R311.out HY11.out _ _ _⟩
    · refine stepTr_K (by simp only [List.getElem?_toArray, List.getElem?_cons_zero, List.getElem?_cons_succ]; rfl) (by rfl) (fun K hK => ?_)
      go_simp
      obtain ⟨b12, hv, hbb, hbk⟩ : ∃ v, v = b4.alloc (.cells #[.int .i64 (seq.length : Int)] 3) ∧ Below b4.heap.size b4 v ∧ Blk v b4.heap.size 3 #[.int .i64 (seq.length : Int)] := ⟨_, rfl, (Below.refl _ _).alloc (Nat.le_refl _) _, Blk.new _ _ _⟩
      rw [← hv]
      clear hv
      have hbc := hbb
      have HX13 := Lib.hid (HX5.out.after hbc)
      have HY13 := Lib.hid (HY5.out.after hbc)
      have HB13 := Lib.hid (below_then HB5.out hbc (Nat.le_refl _))
      have HP13 := Lib.hid ((HP5.out.below hbc).lt)
      have HT13 := Lib.hid ((HT5.out.below hbc).lt)
      have RC13 := Lib.hid ((RC5.out.below hbc).lt)
      have N213 := Lib.hid ((N25.out.below hbc).lt)
      have N313 := Lib.hid (ints_row1 hbk)
      clear hbc HX5 HY5 HB5 HP5 HT5 RC5 N25 hbb hbk
      refine hK.out _ _ ⟨HB13.out, HX13.out⟩ ?_
      clear hK K
      try simp only [Act.put, List.setIfInBounds_toArray, List.set_cons_zero, List.set_cons_succ]
      refine wpTr_one ?_
      refine stepTr_K (by simp only [List.getElem?_toArray, List.getElem?_cons_zero, List.getElem?_cons_succ]; rfl) (by rfl) (fun K hK => ?_)
      go_simp
      refine (appended_n S (some ⟨d2.heap.size, 0, none⟩) _ _ cS _ _ p.S [(fst14 p.C seq : Int)] (p.S ++ [(fst14 p.C seq : Int)]) _ HP13.out.r2 N213.out rfl rfl rfl HP13.out.l2 (by simp; omega)).mono ?_
      rintro e a14 ⟨AR2, cR2, rfl, g1R2, g2R2, g3, g4⟩
      have hbc := g4
      have HX15 := Lib.hid (HX13.out.after hbc)
      have HY15 := Lib.hid (HY13.out.after hbc)
      have HB15 := Lib.hid (below_then HB13.out hbc (Nat.le_refl _))
      have HP15 := Lib.hid ((HP13.out.below hbc).lt)
      have HT15 := Lib.hid ((HT13.out.below hbc).lt)
      have RC15 := Lib.hid ((RC13.out.below hbc).lt)
      have N215 := Lib.hid ((N213.out.below hbc).lt)
      have N315 := Lib.hid ((N313.out.below hbc).lt)
      have R215 := Lib.hid (g3)
      clear hbc HX13 HY13 HB13 HP13 HT13 RC13 N213 N313 g3 g4
      have G1R2 := Lib.hid g1R2
      clear g1R2
      refine hK.out _ _ ⟨HB15.out, HX15.out⟩ ?_
      clear hK K
      try simp only [Act.put, List.setIfInBounds_toArray, List.set_cons_zero, List.set_cons_succ]
      refine wpTr_one ?_
      refine stepTr_K (by simp only [List.getElem?_toArray, List.getElem?_cons_zero, List.getElem?_cons_succ]; rfl) (by rfl) (fun K hK => ?_)
      go_simp
      refine (appended_n L (some ⟨b4.heap.size, 0, none⟩) _ _ cL _ _ p.L [(seq.length : Int)] (p.L ++ [(seq.length : Int)]) _ HP15.out.r3 N315.out rfl rfl rfl HP15.out.l3 (by simp; omega)).mono ?_
      rintro e a16 ⟨AR3, cR3, rfl, g1R3, g2R3, g3, g4⟩
      have hbc := g4
      have HX17 := Lib.hid (HX15.out.after hbc)
      have HY17 := Lib.hid (HY15.out.after hbc)
      have HB17 := Lib.hid (below_then HB15.out hbc (Nat.le_refl _))
      have HP17 := Lib.hid ((HP15.out.below hbc).lt)
      have HT17 := Lib.hid ((HT15.out.below hbc).lt)
      have RC17 := Lib.hid ((RC15.out.below hbc).lt)
      have N217 := Lib.hid ((N215.out.below hbc).lt)
      have N317 := Lib.hid ((N315.out.below hbc).lt)
      have R217 := Lib.hid ((R215.out.below hbc).lt)
      have R317 := Lib.hid (g3)
      clear hbc HX15 HY15 HB15 HP15 HT15 RC15 N215 N315 R215 g3 g4
      have G1R3 := Lib.hid g1R3
      clear g1R3
      refine hK.out _ _ ⟨HB17.out, HX17.out⟩ ?_
      clear hK K
      try simp only [Act.put, List.setIfInBounds_toArray, List.set_cons_zero, List.set_cons_succ]
      repeat (first
        | (refine wpTr_fskip (by simp only [List.getElem?_toArray, List.getElem?_cons_zero, List.getElem?_cons_succ]; rfl) (by rfl) ?_
           simp only [Act.put, List.setIfInBounds_toArray, List.set_cons_zero, List.set_cons_succ])
        | (refine wpTr_float (v := ?_) (by simp only [List.getElem?_toArray, List.getElem?_cons_zero, List.getElem?_cons_succ]; rfl) (by rfl) (fun w' hS => ?_) ?_
           rotate_left
           (obtain ⟨hSb, hSk⟩ := hS; obtain ⟨e0, e1, e2⟩ := hSk.cells3; have hls := hSk.lt; go_simp; first | done | rfl)
           simp only [Act.put, List.setIfInBounds_toArray, List.set_cons_zero, List.set_cons_succ]))
      refine wpTr_one ?_
      refine stepTr_K (by simp only [List.getElem?_toArray, List.getElem?_cons_zero, List.getElem?_cons_succ]; rfl) (by rfl) (fun K hK => ?_)
      obtain ⟨y0, y1, y2⟩ := HY17.out.cells3
      obtain ⟨z0, z1, z2⟩ := HY17.out.free3
      have hly := HY17.out.lt
      go_simp
      clear y0 y1 y2 z0 z1 z2
      refine hK.out _ _ ⟨below_set3 HB17.out (by omega) _ _ _, HX17.out.far3 (by omega) _ _ _⟩ ?_
      clear hK K
      try simp only [Act.put, List.setIfInBounds_toArray, List.set_cons_zero, List.set_cons_succ]
      refine wpTr_done ?_
      go_wp2
      refine bodyPost_ret (v := .agg #[.slice A1 (put14 p.C seq).length c1, .slice AR2 (p.S ++ [(fst14 p.C seq : Int)]).length cR2, .slice AR3 (p.L ++ [(seq.length : Int)]).length cR3]) ?_ rfl ?_
      · have HY3 := ((HY17.out.set_ 0 (.slice A1 (put14 p.C seq).length c1)).set_ 1 (.slice AR2 (p.S ++ [(fst14 p.C seq : Int)]).length cR2)).set_ 2 (.slice AR3 (p.L ++ [(seq.length : Int)]).length cR3)
        obtain ⟨q0, q1, q2⟩ := HY3.cells3
        simp only [List.length_append, List.length_cons, List.length_nil] at q0 q1 q2 ⊢
        simp [results, Try.results26, go_sem, q0, q1, q2]
      · refine ⟨A1, c1, AR2, cR2, AR3, cR3, rfl, ?_, below_set3 HB17.out (by omega) _ _ _⟩
        exact ⟨G1.out, gm, by rw [size3]; exact Row.apart3 RC17.out HY17.out _ _ _, G1R2.out, g2R2, by rw [size3]; exact Row.apart3 R217.out HY17.out _ _ _, G1R3.out, g2R3, by rw [size3]; exact Row.apart3 R317.out HY17.out _ _ _⟩
  · refine stepTr_K (by simp only [List.getElem?_toArray, List.getElem?_cons_zero, List.getElem?_cons_succ]; rfl) (by rfl) (fun K hK => ?_)
    go_simp
    obtain ⟨b18, hv, hbb, hbk⟩ : ∃ v, v = d2.alloc (.cells #[.int .i64 (seq.length : Int)] 3) ∧ Below d2.heap.size d2 v ∧ Blk v d2.heap.size 3 #[.int .i64 (seq.length : Int)] := ⟨_, rfl, (Below.refl _ _).alloc (Nat.le_refl _) _, Blk.new _ _ _⟩
    rw [← hv]
    clear hv
    have hbc := hbb
    have HX19 := Lib.hid (HX3.out.after hbc)
    have HY19 := Lib.hid (HY3.out.after hbc)
    have HB19 := Lib.hid (below_then HB3.out hbc (Nat.le_refl _))
    have HP19 := Lib.hid ((HP3.out.below hbc).lt)
    have HT19 := Lib.hid ((HT3.out.below hbc).lt)
    have RC19 := Lib.hid ((RC3.out.below hbc).lt)
    have N319 := Lib.hid (ints_row1 hbk)
    clear hbc HX3 HY3 HB3 HP3 HT3 RC3 hbb hbk
    refine hK.out _ _ ⟨HB19.out, HX19.out⟩ ?_
    clear hK K
    try simp only [Act.put, List.setIfInBounds_toArray, List.set_cons_zero, List.set_cons_succ]
    refine wpTr_one ?_
    refine stepTr_K (by simp only [List.getElem?_toArray, List.getElem?_cons_zero, List.getElem?_cons_succ]; rfl) (by rfl) (fun K hK => ?_)
    go_simp
    obtain ⟨b20, hv, hbb, hbk⟩ : ∃ v, v = b18.alloc (.cells #[.int .i64 (fst14 p.C seq : Int)] 3) ∧ Below b18.heap.size b18 v ∧ Blk v b18.heap.size 3 #[.int .i64 (fst14 p.C seq : Int)] := ⟨_, rfl, (Below.refl _ _).alloc (Nat.le_refl _) _, Blk.new _ _ _⟩
    rw [← hv]
    clear hv
    have hbc := hbb
    have HX21 := Lib.hid (HX19.out.after hbc)
    have HY21 := Lib.hid (HY19.out.after hbc)
    have HB21 := Lib.hid (below_then HB19.out hbc (Nat.le_refl _))
    have HP21 := Lib.hid ((HP19.out.below hbc).lt)
    have HT21 := Lib.hid ((HT19.out.below hbc).lt)
    have RC21 := Lib.hid ((RC19.out.below hbc).lt)
    have N321 := Lib.hid ((N319.out.below hbc).lt)
    have N221 := Lib.hid (ints_row1 hbk)
    clear hbc HX19 HY19 HB19 HP19 HT19 RC19 N319 hbb hbk
    refine hK.out _ _ ⟨HB21.out, HX21.out⟩ ?_
    clear hK K
    try simp only [Act.put, List.setIfInBounds_toArray, List.set_cons_zero, List.set_cons_succ]
    refine wpTr_one ?_
    refine stepTr_K (by simp only [List.getElem?_toArray, List.getElem?_cons_zero, List.getElem?_cons_succ]; rfl) (by rfl) (fun K hK => ?_)
    go_simp
    refine (appended_n S (some ⟨b18.heap.size, 0, none⟩) _ _ cS _ _ p.S [(fst14 p.C seq : Int)] (p.S ++ [(fst14 p.C seq : Int)]) _ HP21.out.r2 N221.out rfl rfl rfl HP21.out.l2 (by simp; omega)).mono ?_
    rintro e a22 ⟨AR2, cR2, rfl, g1R2, g2R2, g3, g4⟩
    have hbc := g4
    have HX23 := Lib.hid (HX21.out.after hbc)
    have HY23 := Lib.hid (HY21.out.after hbc)
    have HB23 := Lib.hid (below_then HB21.out hbc (Nat.le_refl _))
    have HP23 := Lib.hid ((HP21.out.below hbc).lt)
    have HT23 := Lib.hid ((HT21.out.below hbc).lt)
    have RC23 := Lib.hid ((RC21.out.below hbc).lt)
    have N323 := Lib.hid ((N321.out.below hbc).lt)
    have N223 := Lib.hid ((N221.out.below hbc).lt)
    have R223 := Lib.hid (g3)
    clear hbc HX21 HY21 HB21 HP21 HT21 RC21 N321 N221 g3 g4
    have G1R2 := Lib.hid g1R2
    clear g1R2
    refine hK.out _ _ ⟨HB23.out, HX23.out⟩ ?_
    clear hK K
    try simp only [Act.put, List.setIfInBounds_toArray, List.set_cons_zero, List.set_cons_succ]
    refine wpTr_one ?_
    refine stepTr_K (by simp only [List.getElem?_toArray, List.getElem?_cons_zero, List.getElem?_cons_succ]; rfl) (by rfl) (fun K hK => ?_)
    go_simp
    refine (appended_n L (some ⟨d2.heap.size, 0, none⟩) _ _ cL _ _ p.L [(seq.length : Int)] (p.L ++ [(seq.length : Int)]) _ HP23.out.r3 N323.out rfl rfl rfl HP23.out.l3 (by simp; omega)).mono ?_
    rintro e a24 ⟨AR3, cR3, rfl, g1R3, g2R3, g3, g4⟩
    have hbc := g4
    have HX25 := Lib.hid (HX23.out.after hbc)
    have HY25 := Lib.hid (HY23.out.after hbc)
    have HB25 := Lib.hid (below_then HB23.out hbc (Nat.le_refl _))
    have HP25 := Lib.hid ((HP23.out.below hbc).lt)
    have HT25 := Lib.hid ((HT23.out.below hbc).lt)
    have RC25 := Lib.hid ((RC23.out.below hbc).lt)
    have N325 := Lib.hid ((N323.out.below hbc).lt)
    have N225 := Lib.hid ((N223.out.below hbc).lt)
    have R225 := Lib.hid ((R223.out.below hbc).lt)
    have R325 := Lib.hid (g3)
    clear hbc HX23 HY23 HB23 HP23 HT23 RC23 N323 N223 R223 g3 g4
    have G1R3 := Lib.hid g1R3
    clear g1R3
    refine hK.out _ _ ⟨HB25.out, HX25.out⟩ ?_
    clear hK K
    try simp only [Act.put, List.setIfInBounds_toArray, List.set_cons_zero, List.set_cons_succ]
    repeat (first
      | (refine wpTr_fskip (by simp only [List.getElem?_toArray, List.getElem?_cons_zero, List.getElem?_cons_succ]; rfl) (by rfl) ?_
         simp only [Act.put, List.setIfInBounds_toArray, List.set_cons_zero, List.set_cons_succ])
      | (refine wpTr_float (v := ?_) (by simp only [List.getElem?_toArray, List.getElem?_cons_zero, List.getElem?_cons_succ]; rfl) (by rfl) (fun w' hS => ?_) ?_
         rotate_left
         (obtain ⟨hSb, hSk⟩ := hS; obtain ⟨e0, e1, e2⟩ := hSk.cells3; have hls := hSk.lt; go_simp; first | done | rfl)
         simp only [Act.put, List.setIfInBounds_toArray, List.set_cons_zero, List.set_cons_succ]))
    refine wpTr_one ?_
    refine stepTr_K (by simp only [List.getElem?_toArray, List.getElem?_cons_zero, List.getElem?_cons_succ]; rfl) (by rfl) (fun K hK => ?_)
    obtain ⟨y0, y1, y2⟩ := HY25.out.cells3
    obtain ⟨z0, z1, z2⟩ := HY25.out.free3
    have hly := HY25.out.lt
    go_simp
    clear y0 y1 y2 z0 z1 z2
    refine hK.out _ _ ⟨below_set3 HB25.out (by omega) _ _ _, HX25.out.far3 (by omega) _ _ _⟩ ?_
    clear hK K
    try simp only [Act.put, List.setIfInBounds_toArray, List.set_cons_zero, List.set_cons_succ]
    refine wpTr_done ?_
    go_wp2
    refine bodyPost_ret (v := .agg #[.slice A1 (put14 p.C seq).length c1, .slice AR2 (p.S ++ [(fst14 p.C seq : Int)]).length cR2, .slice AR3 (p.L ++ [(seq.length : Int)]).length cR3]) ?_ rfl ?_
    · have HY3 := ((HY25.out.set_ 0 (.slice A1 (put14 p.C seq).length c1)).set_ 1 (.slice AR2 (p.S ++ [(fst14 p.C seq : Int)]).length cR2)).set_ 2 (.slice AR3 (p.L ++ [(seq.length : Int)]).length cR3)
      obtain ⟨q0, q1, q2⟩ := HY3.cells3
      simp only [List.length_append, List.length_cons, List.length_nil] at q0 q1 q2 ⊢
      simp [results, Try.results26, go_sem, q0, q1, q2]
    · refine ⟨A1, c1, AR2, cR2, AR3, cR3, rfl, ?_, below_set3 HB25.out (by omega) _ _ _⟩
      exact ⟨G1.out, gm, by rw [size3]; exact Row.apart3 RC25.out HY25.out _ _ _, G1R2.out, g2R2, by rw [size3]; exact Row.apart3 R225.out HY25.out _ _ _, G1R3.out, g2R3, by rw [size3]; exact Row.apart3 R325.out HY25.out _ _ _⟩
end Go.Proofs.Yteobffcnfigilaa
