/-
  SeqpoolSteps: for every input the law returns true, and its arguments read as before. No condition.
-/
import Derived.Test.YteobffcnfigilaaRows
import Derived.Test.YteobffcnfigilaaLift
import Derived.Test.YteobffcnfigilaaLst
import Derived.Test.YteobffcnfigilaaSp10
import Derived.Test.YteobffcnfigilaaTree
import Derived.Deep.DeepCutAuto
import Derived.Deep.CutBlock
namespace Go.Proofs.Yteobffcnfigilaa.LSteps
open Go.ChangeShapes Go.WideShapes Go.ChangeAt Go.RowKit Go.UtYteobffcnfigilaa Go.Joins
/-- slices in a row, and what each reads as -/
def Els (w : World) (B : Nat) (vs : List Value) (xss : List (List Int)) : Prop :=
  vs.length = xss.length ∧ ∀ (k : Nat) (xs : List Int), xss[k]? = some xs → ∃ (A' : Option Addr) (c' : Nat), vs[k]? = some (Value.slice A' xs.length c') ∧ xs.length ≤ c' ∧ c' ≤ maxLen ∧ Row w B A' (ints xs)
theorem Els.below {w w' : World} {B : Nat} {vs : List Value} {xss : List (List Int)} (h : Els w B vs xss) (hb : Below B w w') : Els w' B vs xss :=
  ⟨h.1, fun k xs hk => by
    obtain ⟨A', c', a1, a2, a3, a4⟩ := h.2 k xs hk
    exact ⟨A', c', a1, a2, a3, a4.below hb⟩⟩
theorem Els.lt {w : World} {B : Nat} {vs : List Value} {xss : List (List Int)} (h : Els w B vs xss) : Els w w.heap.size vs xss :=
  ⟨h.1, fun k xs hk => by
    obtain ⟨A', c', a1, a2, a3, a4⟩ := h.2 k xs hk
    exact ⟨A', c', a1, a2, a3, a4.lt⟩⟩
theorem Els.snoc {w : World} {B c : Nat} {vs : List Value} {xss : List (List Int)} {A : Option Addr} {xs : List Int} (h : Els w B vs xss) (h1 : xs.length ≤ c) (h2 : c ≤ maxLen) (h3 : Row w B A (ints xs)) : Els w B (vs ++ [.slice A xs.length c]) (xss ++ [xs]) := by
  refine ⟨by simp [h.1], fun k ys hk => ?_⟩
  rcases Nat.lt_trichotomy k xss.length with h4 | h4 | h4
  · rw [List.getElem?_append_left h4] at hk
    rw [List.getElem?_append_left (by rw [h.1]; exact h4)]
    exact h.2 k ys hk
  · subst h4
    rw [List.getElem?_append_right (Nat.le_refl _), Nat.sub_self] at hk
    simp at hk
    subst hk
    refine ⟨A, c, ?_, h1, h2, h3⟩
    rw [← h.1, List.getElem?_append_right (Nat.le_refl _), Nat.sub_self]
    rfl
  · rw [List.getElem?_eq_none (by simp; omega)] at hk
    cases hk
theorem Els.one {w : World} {B : Nat} {vs : List Value} {xss : List (List Int)} (h : Els w B vs xss) : ∀ u ∈ vs, u.oneCell' = true := by
  intro u hu
  obtain ⟨k, hk⟩ := List.getElem?_of_mem hu
  have hkl : k < xss.length := by
    have := (List.getElem?_eq_some_iff.1 hk).1
    rw [h.1] at this
    exact this
  obtain ⟨A', c', a1, _⟩ := h.2 k _ (List.getElem?_eq_getElem hkl)
  rw [hk] at a1
  injection a1 with a1
  subst a1
  rfl
theorem slice_info : (Try.prog.info? 25).map (fun i => (i.zero, i.size, i.bytes)) = some (some (.slice none 0 0), 1, 24) := by kernel_rfl
theorem few_snoc {l : List (List Int)} {x : List Int} (h : fewB l = true) (hx : x.length ≤ 20) : ∀ xs ∈ l ++ [x], xs.length ≤ 20 := by
  intro xs hxs
  rcases List.mem_append.1 hxs with h1 | h1
  · exact (few_of h).2 xs h1
  · simp at h1
    subst h1
    exact hx
attribute [local go_sem high] cut_l cut_lh cut_lhm cutA_zero
attribute [local go_sem 500] cut_any
set_option maxRecDepth 100000 in
set_option maxHeartbeats 4000000 in
theorem walk (w : World) (A : Option Addr) (c : Nat) (l : List (List Int)) (lc : l.length ≤ c) (lm : c ≤ maxLen) (hA : Rows2 w w.heap.size A l) (A2 : Option Addr) (c2 : Nat) (last : List Int) (lc2 : last.length ≤ c2) (lm2 : c2 ≤ maxLen) (hA2 : Row w w.heap.size A2 (ints last)) :
    Calls Try.prog 7 #[.slice A l.length c, .slice A2 last.length c2] w fun e w' => e = .returned (.bool true) ∧ Below w.heap.size w w' := by
  have hlm := Nat.le_trans lc lm
  obtain ⟨vs, hvl, hvr, hve⟩ := hA
  have hA : Rows2 w w.heap.size A l := ⟨vs, hvl, hvr, hve⟩
  have hE : Els w w.heap.size vs l := ⟨hvl, hve⟩
  clear hve
  have HA0 := Lib.hid hA
  have HL0 := Lib.hid hA2
  have HE0 := Lib.hid hE
  have HV0 := Lib.hid hvr
  clear hA hA2 hE hvr
  have HB0 := Lib.hid (Below.refl w.heap.size w)
  obtain ⟨bHD, hd⟩ : ∃ b, fewB l = b := ⟨_, rfl⟩
  have HD := Lib.hid hd
  cases bHD with
  | false =>
    clear hd
    go_enter Try.func7, Try.ntmps7
    go_wp2_with fail
    refine (few_any _ _ _ _ _ HA0.out hlm _ HD.out).mono ?_
    rintro e w' ⟨rfl, rfl⟩
    go_wp2_with fail
    refine (alive_any _).mono ?_
    rintro e w1 ⟨rfl, hb⟩
    have hbc := hb
    have HA2 := Lib.hid ((HA0.out.below hbc).lt)
    have HL2 := Lib.hid ((HL0.out.below hbc).lt)
    have HE2 := Lib.hid ((HE0.out.below hbc).lt)
    have HV2 := Lib.hid ((HV0.out.below hbc).lt)
    have HB2 := Lib.hid (below_then HB0.out hbc (Nat.le_refl _))
    clear hbc HA0 HL0 HE0 HV0 HB0 hb
    go_wp2
    go_ret
    exact ⟨rfl, HB2.out⟩
  | true =>
    by_cases h20 : 20 < last.length
    · clear hd
      go_enter Try.func7, Try.ntmps7
      go_wp2_with fail
      refine (few_any _ _ _ _ _ HA0.out hlm _ HD.out).mono ?_
      rintro e w' ⟨rfl, rfl⟩
      go_wp2_with fail
      refine (alive_any _).mono ?_
      rintro e w3 ⟨rfl, hb⟩
      have hbc := hb
      have HA4 := Lib.hid ((HA0.out.below hbc).lt)
      have HL4 := Lib.hid ((HL0.out.below hbc).lt)
      have HE4 := Lib.hid ((HE0.out.below hbc).lt)
      have HV4 := Lib.hid ((HV0.out.below hbc).lt)
      have HB4 := Lib.hid (below_then HB0.out hbc (Nat.le_refl _))
      clear hbc HA0 HL0 HE0 HV0 HB0 hb
      go_wp2
      go_ret
      exact ⟨rfl, HB4.out⟩
    · obtain ⟨z1, z2, z3⟩ := pack_len l (few_of hd).2
      have H20 := Lib.hid (few_snoc hd (show last.length ≤ 20 by omega))
      have h12 := (few_of hd).1
      obtain ⟨p, hp⟩ : ∃ p, pack14 l = p := ⟨_, rfl⟩
      have HVP : Hid (own14 p = p) := by show _ = _; rw [← hp]; exact own_pack l
      obtain ⟨q, hq⟩ : ∃ q, add14 p last = q := ⟨_, rfl⟩
      have HQ := Lib.hid hq
      have HPP := Lib.hid hp
      have HPK : Hid (q = pack14 (l ++ [last])) := by show _ = _; rw [pack_append, hp, hq]
      rw [hp] at z1 z2 z3
      have v1 : ((p.S.length : Int) == (l.length : Int)) = true := by simp; omega
      have z2a : p.S.length ≤ 12 := by omega
      have z3a : p.L.length ≤ 12 := by omega
      have hvl2 : vs.length ≤ l.length := by omega
      have HVL := Lib.hid hvl
      have hlx : (l ++ [last]).length = l.length + 1 := by simp
      have HLX := Lib.hid hlx
      obtain ⟨i0, hi0, hz0, hz1, hz2⟩ := info_parts slice_info
      clear hp hq hd z2 z3 hvl hlx
      go_enter Try.func7, Try.ntmps7
      go_wp2_with fail
      refine (few_any _ _ _ _ _ HA0.out hlm _ HD.out).mono ?_
      rintro e w' ⟨rfl, rfl⟩
      go_wp2_with fail
      have hcall := pack_any A c l _ HA0.out HD.out
      rw [HPP.out] at hcall
      refine (hcall).mono ?_
      rintro e w5 ⟨A1, c1, A3, c3, A4, c4, rfl, hp, hb⟩
      have hbc := hb
      have HA6 := Lib.hid ((HA0.out.below hbc).lt)
      have HL6 := Lib.hid ((HL0.out.below hbc).lt)
      have HE6 := Lib.hid ((HE0.out.below hbc).lt)
      have HV6 := Lib.hid ((HV0.out.below hbc).lt)
      have HB6 := Lib.hid (below_then HB0.out hbc (Nat.le_refl _))
      have P16 := Lib.hid (hp)
      clear hbc HA0 HL0 HE0 HV0 HB0 hb
      clear hp hcall
      go_wp2_with fail
      have hcall := addP_any A1 A3 A4 A2 c1 c3 c4 c2 p last _ P16.out ⟨by omega, by omega, by omega⟩ HL6.out lc2 lm2 (by omega) p HVP.out
      rw [HQ.out] at hcall
      refine (hcall).mono ?_
      rintro e w7 ⟨B1, b1, B2, b2, B3, b3, rfl, hp, hb⟩
      have hbc := hb
      have HA8 := Lib.hid ((HA6.out.below hbc).lt)
      have HL8 := Lib.hid ((HL6.out.below hbc).lt)
      have HE8 := Lib.hid ((HE6.out.below hbc).lt)
      have HV8 := Lib.hid ((HV6.out.below hbc).lt)
      have HB8 := Lib.hid (below_then HB6.out hbc (Nat.le_refl _))
      have P18 := Lib.hid ((P16.out.below hbc).lt)
      have P28 := Lib.hid (hp)
      clear hbc HA6 HL6 HE6 HV6 HB6 P16 hb
      clear hp hcall
      go_wp2_with fail
      obtain ⟨n9, hv, hbb, hk0⟩ : ∃ v, v = (w7.alloc (.cells #[.slice B1 q.C.length b1, .slice B2 q.S.length b2, .slice B3 q.L.length b3] 27)) ∧ Below w7.heap.size w7 v ∧ Blk v (w7.heap.size) 27 #[.slice B1 q.C.length b1, .slice B2 q.S.length b2, .slice B3 q.L.length b3] :=
        ⟨_, rfl, (Below.refl _ _).alloc (Nat.le_refl _) _, Blk.at_new (by simp; try omega)⟩
      rw [← hv]
      clear hv
      have hbc := hbb
      have HA10 := Lib.hid ((HA8.out.below hbc).lt)
      have HL10 := Lib.hid ((HL8.out.below hbc).lt)
      have HE10 := Lib.hid ((HE8.out.below hbc).lt)
      have HV10 := Lib.hid ((HV8.out.below hbc).lt)
      have HB10 := Lib.hid (below_then HB8.out hbc (Nat.le_refl _))
      have P110 := Lib.hid ((P18.out.below hbc).lt)
      have P210 := Lib.hid ((P28.out.below hbc).lt)
      have KQ10 := Lib.hid (hk0)
      clear hbc HA8 HL8 HE8 HV8 HB8 P18 P28 hbb hk0
      obtain ⟨tq, htq⟩ : ∃ t, t = w7.heap.size := ⟨_, rfl⟩
      rw [← htq] at KQ10 ⊢
      clear htq
      refine wp_region_tree (fun w' => Below w.heap.size w w' ∧ Blk w' tq 27 #[.slice B1 q.C.length b1, .slice B2 q.S.length b2, .slice B3 q.L.length b3]) (.float 0 (.float 2 (.float 4 (.two 1 (.two 3 (.one 5 (.one 6 (.one 7 (.one 8 (.float 9 (.float 10 (.float 11 (.float 12 (.float 13 (.float 14 (.float 15 (.one 16 (.float 17 (.float 18 .done)))))))))))))) 5 (.one 3 (.one 6 (.one 7 (.one 8 (.float 9 (.float 10 (.float 11 (.float 12 (.float 13 (.float 14 (.float 15 (.one 16 (.float 17 (.float 18 .done))))))))))))))) 5 (.one 1 (.one 3 (.one 6 (.one 7 (.one 8 (.float 9 (.float 10 (.float 11 (.float 12 (.float 13 (.float 14 (.float 15 (.one 16 (.float 17 (.float 18 .done))))))))))))))))))) (by kernel_rfl) (by kernel_rfl) (fun _ _ d _ _ h => by cases d <;> exact h) ⟨HB10.out.drew, KQ10.out.drew⟩ ?_
      obtain ⟨d11, hdr, hbd⟩ : ∃ d, d = n9.drew ∧ Below n9.heap.size n9 d := ⟨_, rfl, (Below.refl _ _).drew⟩
      rw [← hdr]
      clear hdr
      have hbc := hbd
      have HL12 := Lib.hid ((HL10.out.below hbc).lt)
      have HE12 := Lib.hid ((HE10.out.below hbc).lt)
      have HV12 := Lib.hid ((HV10.out.below hbc).lt)
      have HB12 := Lib.hid (below_then HB10.out hbc (Nat.le_refl _))
      have P212 := Lib.hid ((P210.out.below hbc).lt)
      have KQ12 := Lib.hid (KQ10.out.after hbc)
      clear hbc HL10 HE10 HV10 HB10 P210 KQ10 hbd
      repeat (first
        | (refine wpTr_fskip (by simp only [List.getElem?_toArray, List.getElem?_cons_zero, List.getElem?_cons_succ]; rfl) (by rfl) ?_
           simp only [Act.put, List.setIfInBounds_toArray, List.set_cons_zero, List.set_cons_succ])
        | (refine wpTr_float (v := ?_) (by simp only [List.getElem?_toArray, List.getElem?_cons_zero, List.getElem?_cons_succ]; rfl) (by rfl) (fun w' hS => ?_) ?_
           rotate_left
           (obtain ⟨hSb, hSk⟩ := hS; obtain ⟨e0, e1, e2⟩ := hSk.cells3; have hls := hSk.lt; go_simp; first | done | rfl)
           simp only [Act.put, List.setIfInBounds_toArray, List.set_cons_zero, List.set_cons_succ]))
      refine wpTr_two ?_ ?_
      · refine stepTr_K (by simp only [List.getElem?_toArray, List.getElem?_cons_zero, List.getElem?_cons_succ]; rfl) (by rfl) (fun K hK => ?_)
        have hwd : w.heap.size ≤ d11.heap.size := HB12.out.size
        have lKQ := KQ12.out.lt
        have SZ0 := Lib.hid (Nat.le_refl d11.heap.size)
        go_simp
        obtain ⟨n13, hv, hbb, hbk⟩ : ∃ v, v = d11.alloc (.cells #[] 25) ∧ Below d11.heap.size d11 v ∧ Blk v d11.heap.size 25 #[] := ⟨_, rfl, (Below.refl _ _).alloc (Nat.le_refl _) _, Blk.new _ _ _⟩
        rw [← hv]
        clear hv
        obtain ⟨g0, ha⟩ : ∃ a, a = d11.heap.size := ⟨_, rfl⟩
        rw [← ha] at hbk ⊢
        have sg0 : d11.heap.size ≤ g0 := by rw [ha]; exact SZ0.out
        have hown : n13.ownsRow g0 25 1 (.slice (some ⟨g0, 0, none⟩) 0 0) 0 [] := ⟨by simp, .inr ⟨g0, 0, #[], rfl, Nat.le_refl _, hbk, by omega, by simp [maxLen], by simp, by simp⟩⟩
        have hbc := hbb.mono SZ0.out
        have HL14 := Lib.hid (HL12.out.below hbc)
        have HE14 := Lib.hid (HE12.out.below hbc)
        have HV14 := Lib.hid (HV12.out.below hbc)
        have HB14 := Lib.hid (HB12.out.trans (hbc.mono hwd))
        have P214 := Lib.hid (P212.out.below hbc)
        have KQ14 := Lib.hid (KQ12.out.below hbc lKQ)
        have SZ14 := Lib.hid (Nat.le_trans SZ0.out hbc.size)
        have OW14 := Lib.hid (hown)
        have GZ14 := Lib.hid (Nat.le_of_lt hbk.lt)
        clear hbc HL12 HE12 HV12 HB12 P212 KQ12 SZ0 hbb hbk ha hown
        refine hK.out _ _ ⟨HB14.out, KQ14.out⟩ ?_
        clear hK K
        try simp only [Act.put, List.setIfInBounds_toArray, List.set_cons_zero, List.set_cons_succ]
        refine wpTr_two ?_ ?_
        · refine stepTr_K (by simp only [List.getElem?_toArray, List.getElem?_cons_zero, List.getElem?_cons_succ]; rfl) (by rfl) (fun K hK => ?_)
          refine wp_append_row _ (.tmp 24) (.tmp 25) _ rfl g0 25 i0 _ 1 24 Try.underlying22 hi0 hz0 hz1 hz2 rfl (by omega) (.slice (some ⟨g0, 0, none⟩) 0 0) 0 [] rfl OW14.out d11.heap.size A l.length c vs rfl (by rw [HVL.out]; omega) HV14.out HE14.out.one (by simp only [maxLen]; omega) (by omega) GZ14.out ?_
          intro y u15 hown hg hat
          rw [Nat.zero_add, List.nil_append] at hown
          obtain ⟨A5, c5, rfl, x1, x2, x3⟩ := own_row hown
          have hbm : Below d11.heap.size n13 u15 := (Below.refl _ _).grown hg SZ14.out (fun g hg => Nat.le_trans sg0 (own_base OW14.out g hg))
          have hbc := hbm
          have HL16 := Lib.hid (HL14.out.below hbc)
          have HE16 := Lib.hid (HE14.out.below hbc)
          have HV16 := Lib.hid (HV14.out.below hbc)
          have HB16 := Lib.hid (HB14.out.trans (hbc.mono hwd))
          have P216 := Lib.hid (P214.out.below hbc)
          have KQ16 := Lib.hid (KQ14.out.below hbc lKQ)
          have SZ16 := Lib.hid (Nat.le_trans SZ14.out hbc.size)
          have GZ16 := Lib.hid (Nat.le_trans GZ14.out hbc.size)
          have OW16 := Lib.hid (hown)
          clear hbc HL14 HE14 HV14 HB14 P214 KQ14 SZ14 OW14 GZ14 hown hg hat x3 hbm
          clear x1 x2
          refine hK.out _ _ ⟨HB16.out, KQ16.out⟩ ?_
          clear hK K
          try simp only [Act.put, List.setIfInBounds_toArray, List.set_cons_zero, List.set_cons_succ]
          refine wpTr_one ?_
          refine stepTr_K (by simp only [List.getElem?_toArray, List.getElem?_cons_zero, List.getElem?_cons_succ]; rfl) (by rfl) (fun K hK => ?_)
          go_simp
          obtain ⟨n17, hv, hbb, hbk⟩ : ∃ v, v = u15.alloc (.cells #[.slice A2 last.length c2] 25) ∧ Below u15.heap.size u15 v ∧ Blk v u15.heap.size 25 #[.slice A2 last.length c2] := ⟨_, rfl, (Below.refl _ _).alloc (Nat.le_refl _) _, Blk.new _ _ _⟩
          rw [← hv]
          clear hv
          obtain ⟨a5, ha⟩ : ∃ a, a = u15.heap.size := ⟨_, rfl⟩
          rw [← ha] at hbk ⊢
          have sa5 : d11.heap.size ≤ a5 := by rw [ha]; exact SZ16.out
          have hbc := hbb.mono SZ16.out
          have HL18 := Lib.hid (HL16.out.below hbc)
          have HE18 := Lib.hid (HE16.out.below hbc)
          have HV18 := Lib.hid (HV16.out.below hbc)
          have HB18 := Lib.hid (HB16.out.trans (hbc.mono hwd))
          have P218 := Lib.hid (P216.out.below hbc)
          have KQ18 := Lib.hid (KQ16.out.below hbc lKQ)
          have SZ18 := Lib.hid (Nat.le_trans SZ16.out hbc.size)
          have GZ18 := Lib.hid (Nat.le_trans GZ16.out hbc.size)
          have N518 := Lib.hid (hbk)
          have OW18 := Lib.hid (own_below OW16.out hbb)
          clear hbc HL16 HE16 HV16 HB16 P216 KQ16 SZ16 GZ16 OW16 hbb hbk ha
          refine hK.out _ _ ⟨HB18.out, KQ18.out⟩ ?_
          clear hK K
          try simp only [Act.put, List.setIfInBounds_toArray, List.set_cons_zero, List.set_cons_succ]
          refine wpTr_one ?_
          refine stepTr_K (by simp only [List.getElem?_toArray, List.getElem?_cons_zero, List.getElem?_cons_succ]; rfl) (by rfl) (fun K hK => ?_)
          refine wp_append_row _ (.tmp 26) (.tmp 28) _ rfl g0 25 i0 _ 1 24 Try.underlying22 hi0 hz0 hz1 hz2 rfl (by omega) (.slice A5 l.length c5) l.length vs rfl OW18.out _ (some ⟨a5, 0, none⟩) 1 1 [.slice A2 last.length c2] rfl rfl (N518.out.row rfl) (by simp [Value.oneCell']) (by simp only [maxLen]; omega) (by omega) GZ18.out ?_
          intro y u19 hown hg hat
          obtain ⟨A6, c6, rfl, x1, x2, x3⟩ := own_row hown
          have hbm : Below d11.heap.size n17 u19 := (Below.refl _ _).grown hg SZ18.out (fun g hg => Nat.le_trans sg0 (own_base OW18.out g hg))
          have hbc := hbm
          have HL20 := Lib.hid (HL18.out.below hbc)
          have HE20 := Lib.hid (HE18.out.below hbc)
          have HV20 := Lib.hid (HV18.out.below hbc)
          have HB20 := Lib.hid (HB18.out.trans (hbc.mono hwd))
          have P220 := Lib.hid (P218.out.below hbc)
          have KQ20 := Lib.hid (KQ18.out.below hbc lKQ)
          have SZ20 := Lib.hid (Nat.le_trans SZ18.out hbc.size)
          have GZ20 := Lib.hid (Nat.le_trans GZ18.out hbc.size)
          have RV20 := Lib.hid (x3)
          clear hbc HL18 HE18 HV18 HB18 P218 KQ18 SZ18 GZ18 N518 OW18 hown hg hat x3 hbm
          clear x1 x2
          have HL21 := Lib.hid HL20.out.lt
          have HE21 := Lib.hid HE20.out.lt
          have P221 := Lib.hid P220.out.lt
          clear HL20 HE20 P220 HV20 SZ20 GZ20
          refine hK.out _ _ ⟨HB20.out, KQ20.out⟩ ?_
          clear hK K
          try simp only [Act.put, List.setIfInBounds_toArray, List.set_cons_zero, List.set_cons_succ]
          refine wpTr_one ?_
          refine stepTr_K (by simp only [List.getElem?_toArray, List.getElem?_cons_zero, List.getElem?_cons_succ]; rfl) (by rfl) (fun K hK => ?_)
          go_simp
          have hrw : Rows2 u19 u19.heap.size A6 (l ++ [last]) := ⟨vs ++ [.slice A2 last.length c2], by simp [HVL.out], RV20.out, (Els.snoc HE21.out lc2 lm2 HL21.out).2⟩
          have hcall := pack_gen A6 c6 (l ++ [last]) _ hrw (by rw [HLX.out]; omega) H20.out
          rw [HLX.out, ← HPK.out] at hcall
          refine (hcall).mono ?_
          rintro e w22 ⟨D1, d1, D2, d2, D3, d3, rfl, hp, hb⟩
          have hbc := hb
          have HL23 := Lib.hid ((HL21.out.below hbc).lt)
          have HE23 := Lib.hid ((HE21.out.below hbc).lt)
          have P223 := Lib.hid ((P221.out.below hbc).lt)
          have KQ23 := Lib.hid (KQ20.out.after hbc)
          have HB23 := Lib.hid (below_then HB20.out hbc (Nat.le_refl _))
          have RV23 := Lib.hid ((RV20.out.below hbc).lt)
          have P323 := Lib.hid (hp)
          clear hbc HL21 HE21 P221 KQ20 HB20 RV20 hb
          clear hp hcall hrw
          clear HE23
          clear RV23
          clear HL23
          refine hK.out _ _ ⟨HB23.out, KQ23.out⟩ ?_
          clear hK K
          try simp only [Act.put, List.setIfInBounds_toArray, List.set_cons_zero, List.set_cons_succ]
          refine wpTr_one ?_
          refine stepTr_K (by simp only [List.getElem?_toArray, List.getElem?_cons_zero, List.getElem?_cons_succ]; rfl) (by rfl) (fun K hK => ?_)
          go_simp
          refine (same_any B1 B2 B3 D1 D2 D3 b1 b2 b3 d1 d2 d3 q q _ P223.out P323.out rfl).mono ?_
          rintro e w24 ⟨rfl, hb⟩
          have hbc := hb
          have P225 := Lib.hid ((P223.out.below hbc).lt)
          have KQ25 := Lib.hid (KQ23.out.after hbc)
          have HB25 := Lib.hid (below_then HB23.out hbc (Nat.le_refl _))
          have P325 := Lib.hid ((P323.out.below hbc).lt)
          clear hbc P223 KQ23 HB23 P323 hb
          refine hK.out _ _ ⟨HB25.out, KQ25.out⟩ ?_
          clear hK K
          try simp only [Act.put, List.setIfInBounds_toArray, List.set_cons_zero, List.set_cons_succ]
          repeat (first
            | (refine wpTr_fskip (by simp only [List.getElem?_toArray, List.getElem?_cons_zero, List.getElem?_cons_succ]; rfl) (by rfl) ?_
               simp only [Act.put, List.setIfInBounds_toArray, List.set_cons_zero, List.set_cons_succ])
            | (refine wpTr_float (v := ?_) (by simp only [List.getElem?_toArray, List.getElem?_cons_zero, List.getElem?_cons_succ]; rfl) (by rfl) (fun w' hS => ?_) ?_
               rotate_left
               (obtain ⟨hSb, hSk⟩ := hS; obtain ⟨e0, e1, e2⟩ := hSk.cells3; have hls := hSk.lt; go_simp; first | done | rfl)
               simp only [Act.put, List.setIfInBounds_toArray, List.set_cons_zero, List.set_cons_succ]))
          refine wpTr_one ?_
          refine stepTr_K (by simp only [List.getElem?_toArray, List.getElem?_cons_zero, List.getElem?_cons_succ]; rfl) (by rfl) (fun K hK => ?_)
          go_simp
          refine (alive_any _).mono ?_
          rintro e w26 ⟨rfl, hb⟩
          have hbc := hb
          have P227 := Lib.hid ((P225.out.below hbc).lt)
          have KQ27 := Lib.hid (KQ25.out.after hbc)
          have HB27 := Lib.hid (below_then HB25.out hbc (Nat.le_refl _))
          have P327 := Lib.hid ((P325.out.below hbc).lt)
          clear hbc P225 KQ25 HB25 P325 hb
          refine hK.out _ _ ⟨HB27.out, KQ27.out⟩ ?_
          clear hK K
          try simp only [Act.put, List.setIfInBounds_toArray, List.set_cons_zero, List.set_cons_succ]
          repeat (first
            | (refine wpTr_fskip (by simp only [List.getElem?_toArray, List.getElem?_cons_zero, List.getElem?_cons_succ]; rfl) (by rfl) ?_
               simp only [Act.put, List.setIfInBounds_toArray, List.set_cons_zero, List.set_cons_succ])
            | (refine wpTr_float (v := ?_) (by simp only [List.getElem?_toArray, List.getElem?_cons_zero, List.getElem?_cons_succ]; rfl) (by rfl) (fun w' hS => ?_) ?_
               rotate_left
               (obtain ⟨hSb, hSk⟩ := hS; obtain ⟨e0, e1, e2⟩ := hSk.cells3; have hls := hSk.lt; go_simp; first | done | rfl)
               simp only [Act.put, List.setIfInBounds_toArray, List.set_cons_zero, List.set_cons_succ]))
          refine wpTr_done ?_
          go_wp2
          go_ret
          exact ⟨rfl, HB27.out⟩
        · refine stepTr_K (by simp only [List.getElem?_toArray, List.getElem?_cons_zero, List.getElem?_cons_succ]; rfl) (by rfl) (fun K hK => ?_)
          go_simp
          obtain ⟨n28, hv, hbb, hbk⟩ : ∃ v, v = n13.alloc (.cells #[.slice A2 last.length c2] 25) ∧ Below n13.heap.size n13 v ∧ Blk v n13.heap.size 25 #[.slice A2 last.length c2] := ⟨_, rfl, (Below.refl _ _).alloc (Nat.le_refl _) _, Blk.new _ _ _⟩
          rw [← hv]
          clear hv
          obtain ⟨a5, ha⟩ : ∃ a, a = n13.heap.size := ⟨_, rfl⟩
          rw [← ha] at hbk ⊢
          have sa5 : d11.heap.size ≤ a5 := by rw [ha]; exact SZ14.out
          have hgn : g0 ≠ a5 := by have := (own_lt OW14.out g0 (by simp [Value.ownBlock])).1; omega
          have hbc := hbb.mono SZ14.out
          have HL29 := Lib.hid (HL14.out.below hbc)
          have HE29 := Lib.hid (HE14.out.below hbc)
          have HV29 := Lib.hid (HV14.out.below hbc)
          have HB29 := Lib.hid (HB14.out.trans (hbc.mono hwd))
          have P229 := Lib.hid (P214.out.below hbc)
          have KQ29 := Lib.hid (KQ14.out.below hbc lKQ)
          have SZ29 := Lib.hid (Nat.le_trans SZ14.out hbc.size)
          have GZ29 := Lib.hid (Nat.le_trans GZ14.out hbc.size)
          have N529 := Lib.hid (hbk)
          have OW29 := Lib.hid (own_below OW14.out hbb)
          clear hbc HL14 HE14 HV14 HB14 P214 KQ14 SZ14 OW14 GZ14 hbb hbk ha
          refine hK.out _ _ ⟨HB29.out, KQ29.out⟩ ?_
          clear hK K
          try simp only [Act.put, List.setIfInBounds_toArray, List.set_cons_zero, List.set_cons_succ]
          refine wpTr_one ?_
          refine stepTr_K (by simp only [List.getElem?_toArray, List.getElem?_cons_zero, List.getElem?_cons_succ]; rfl) (by rfl) (fun K hK => ?_)
          refine wp_append_row _ (.tmp 24) (.tmp 25) _ rfl g0 25 i0 _ 1 24 Try.underlying22 hi0 hz0 hz1 hz2 rfl (by omega) (.slice (some ⟨g0, 0, none⟩) 0 0) 0 [] rfl OW29.out d11.heap.size A l.length c vs rfl (by rw [HVL.out]; omega) HV29.out HE29.out.one (by simp only [maxLen]; omega) (by omega) GZ29.out ?_
          intro y u30 hown hg hat
          rw [Nat.zero_add, List.nil_append] at hown
          obtain ⟨A5, c5, rfl, x1, x2, x3⟩ := own_row hown
          have hbm : Below d11.heap.size n28 u30 := (Below.refl _ _).grown hg SZ29.out (fun g hg => Nat.le_trans sg0 (own_base OW29.out g hg))
          have hn5 : Blk u30 a5 25 #[.slice A2 last.length c2] := (hg.block a5 N529.out.lt (by simp [Value.ownBlock]; omega)).trans N529.out
          have hbc := hbm
          have HL31 := Lib.hid (HL29.out.below hbc)
          have HE31 := Lib.hid (HE29.out.below hbc)
          have HV31 := Lib.hid (HV29.out.below hbc)
          have HB31 := Lib.hid (HB29.out.trans (hbc.mono hwd))
          have P231 := Lib.hid (P229.out.below hbc)
          have KQ31 := Lib.hid (KQ29.out.below hbc lKQ)
          have SZ31 := Lib.hid (Nat.le_trans SZ29.out hbc.size)
          have GZ31 := Lib.hid (Nat.le_trans GZ29.out hbc.size)
          have OW31 := Lib.hid (hown)
          have N531 := Lib.hid (hn5)
          clear hbc HL29 HE29 HV29 HB29 P229 KQ29 SZ29 GZ29 N529 OW29 hown hg hat x3 hbm hn5
          clear x1 x2
          refine hK.out _ _ ⟨HB31.out, KQ31.out⟩ ?_
          clear hK K
          try simp only [Act.put, List.setIfInBounds_toArray, List.set_cons_zero, List.set_cons_succ]
          refine wpTr_one ?_
          refine stepTr_K (by simp only [List.getElem?_toArray, List.getElem?_cons_zero, List.getElem?_cons_succ]; rfl) (by rfl) (fun K hK => ?_)
          refine wp_append_row _ (.tmp 26) (.tmp 28) _ rfl g0 25 i0 _ 1 24 Try.underlying22 hi0 hz0 hz1 hz2 rfl (by omega) (.slice A5 l.length c5) l.length vs rfl OW31.out _ (some ⟨a5, 0, none⟩) 1 1 [.slice A2 last.length c2] rfl rfl (N531.out.row rfl) (by simp [Value.oneCell']) (by simp only [maxLen]; omega) (by omega) GZ31.out ?_
          intro y u32 hown hg hat
          obtain ⟨A6, c6, rfl, x1, x2, x3⟩ := own_row hown
          have hbm : Below d11.heap.size u30 u32 := (Below.refl _ _).grown hg SZ31.out (fun g hg => Nat.le_trans sg0 (own_base OW31.out g hg))
          have hbc := hbm
          have HL33 := Lib.hid (HL31.out.below hbc)
          have HE33 := Lib.hid (HE31.out.below hbc)
          have HV33 := Lib.hid (HV31.out.below hbc)
          have HB33 := Lib.hid (HB31.out.trans (hbc.mono hwd))
          have P233 := Lib.hid (P231.out.below hbc)
          have KQ33 := Lib.hid (KQ31.out.below hbc lKQ)
          have SZ33 := Lib.hid (Nat.le_trans SZ31.out hbc.size)
          have GZ33 := Lib.hid (Nat.le_trans GZ31.out hbc.size)
          have RV33 := Lib.hid (x3)
          clear hbc HL31 HE31 HV31 HB31 P231 KQ31 SZ31 GZ31 OW31 N531 hown hg hat x3 hbm
          clear x1 x2
          have HL34 := Lib.hid HL33.out.lt
          have HE34 := Lib.hid HE33.out.lt
          have P234 := Lib.hid P233.out.lt
          clear HL33 HE33 P233 HV33 SZ33 GZ33
          refine hK.out _ _ ⟨HB33.out, KQ33.out⟩ ?_
          clear hK K
          try simp only [Act.put, List.setIfInBounds_toArray, List.set_cons_zero, List.set_cons_succ]
          refine wpTr_one ?_
          refine stepTr_K (by simp only [List.getElem?_toArray, List.getElem?_cons_zero, List.getElem?_cons_succ]; rfl) (by rfl) (fun K hK => ?_)
          go_simp
          have hrw : Rows2 u32 u32.heap.size A6 (l ++ [last]) := ⟨vs ++ [.slice A2 last.length c2], by simp [HVL.out], RV33.out, (Els.snoc HE34.out lc2 lm2 HL34.out).2⟩
          have hcall := pack_gen A6 c6 (l ++ [last]) _ hrw (by rw [HLX.out]; omega) H20.out
          rw [HLX.out, ← HPK.out] at hcall
          refine (hcall).mono ?_
          rintro e w35 ⟨D1, d1, D2, d2, D3, d3, rfl, hp, hb⟩
          have hbc := hb
          have HL36 := Lib.hid ((HL34.out.below hbc).lt)
          have HE36 := Lib.hid ((HE34.out.below hbc).lt)
          have P236 := Lib.hid ((P234.out.below hbc).lt)
          have KQ36 := Lib.hid (KQ33.out.after hbc)
          have HB36 := Lib.hid (below_then HB33.out hbc (Nat.le_refl _))
          have RV36 := Lib.hid ((RV33.out.below hbc).lt)
          have P336 := Lib.hid (hp)
          clear hbc HL34 HE34 P234 KQ33 HB33 RV33 hb
          clear hp hcall hrw
          clear HE36
          clear RV36
          clear HL36
          refine hK.out _ _ ⟨HB36.out, KQ36.out⟩ ?_
          clear hK K
          try simp only [Act.put, List.setIfInBounds_toArray, List.set_cons_zero, List.set_cons_succ]
          refine wpTr_one ?_
          refine stepTr_K (by simp only [List.getElem?_toArray, List.getElem?_cons_zero, List.getElem?_cons_succ]; rfl) (by rfl) (fun K hK => ?_)
          go_simp
          refine (same_any B1 B2 B3 D1 D2 D3 b1 b2 b3 d1 d2 d3 q q _ P236.out P336.out rfl).mono ?_
          rintro e w37 ⟨rfl, hb⟩
          have hbc := hb
          have P238 := Lib.hid ((P236.out.below hbc).lt)
          have KQ38 := Lib.hid (KQ36.out.after hbc)
          have HB38 := Lib.hid (below_then HB36.out hbc (Nat.le_refl _))
          have P338 := Lib.hid ((P336.out.below hbc).lt)
          clear hbc P236 KQ36 HB36 P336 hb
          refine hK.out _ _ ⟨HB38.out, KQ38.out⟩ ?_
          clear hK K
          try simp only [Act.put, List.setIfInBounds_toArray, List.set_cons_zero, List.set_cons_succ]
          repeat (first
            | (refine wpTr_fskip (by simp only [List.getElem?_toArray, List.getElem?_cons_zero, List.getElem?_cons_succ]; rfl) (by rfl) ?_
               simp only [Act.put, List.setIfInBounds_toArray, List.set_cons_zero, List.set_cons_succ])
            | (refine wpTr_float (v := ?_) (by simp only [List.getElem?_toArray, List.getElem?_cons_zero, List.getElem?_cons_succ]; rfl) (by rfl) (fun w' hS => ?_) ?_
               rotate_left
               (obtain ⟨hSb, hSk⟩ := hS; obtain ⟨e0, e1, e2⟩ := hSk.cells3; have hls := hSk.lt; go_simp; first | done | rfl)
               simp only [Act.put, List.setIfInBounds_toArray, List.set_cons_zero, List.set_cons_succ]))
          refine wpTr_one ?_
          refine stepTr_K (by simp only [List.getElem?_toArray, List.getElem?_cons_zero, List.getElem?_cons_succ]; rfl) (by rfl) (fun K hK => ?_)
          go_simp
          refine (alive_any _).mono ?_
          rintro e w39 ⟨rfl, hb⟩
          have hbc := hb
          have P240 := Lib.hid ((P238.out.below hbc).lt)
          have KQ40 := Lib.hid (KQ38.out.after hbc)
          have HB40 := Lib.hid (below_then HB38.out hbc (Nat.le_refl _))
          have P340 := Lib.hid ((P338.out.below hbc).lt)
          clear hbc P238 KQ38 HB38 P338 hb
          refine hK.out _ _ ⟨HB40.out, KQ40.out⟩ ?_
          clear hK K
          try simp only [Act.put, List.setIfInBounds_toArray, List.set_cons_zero, List.set_cons_succ]
          repeat (first
            | (refine wpTr_fskip (by simp only [List.getElem?_toArray, List.getElem?_cons_zero, List.getElem?_cons_succ]; rfl) (by rfl) ?_
               simp only [Act.put, List.setIfInBounds_toArray, List.set_cons_zero, List.set_cons_succ])
            | (refine wpTr_float (v := ?_) (by simp only [List.getElem?_toArray, List.getElem?_cons_zero, List.getElem?_cons_succ]; rfl) (by rfl) (fun w' hS => ?_) ?_
               rotate_left
               (obtain ⟨hSb, hSk⟩ := hS; obtain ⟨e0, e1, e2⟩ := hSk.cells3; have hls := hSk.lt; go_simp; first | done | rfl)
               simp only [Act.put, List.setIfInBounds_toArray, List.set_cons_zero, List.set_cons_succ]))
          refine wpTr_done ?_
          go_wp2
          go_ret
          exact ⟨rfl, HB40.out⟩
      · refine stepTr_K (by simp only [List.getElem?_toArray, List.getElem?_cons_zero, List.getElem?_cons_succ]; rfl) (by rfl) (fun K hK => ?_)
        have hwd : w.heap.size ≤ d11.heap.size := HB12.out.size
        have lKQ := KQ12.out.lt
        have SZ0 := Lib.hid (Nat.le_refl d11.heap.size)
        go_simp
        obtain ⟨n41, hv, hbb, hbk⟩ : ∃ v, v = d11.alloc (.cells #[.slice A2 last.length c2] 25) ∧ Below d11.heap.size d11 v ∧ Blk v d11.heap.size 25 #[.slice A2 last.length c2] := ⟨_, rfl, (Below.refl _ _).alloc (Nat.le_refl _) _, Blk.new _ _ _⟩
        rw [← hv]
        clear hv
        obtain ⟨a5, ha⟩ : ∃ a, a = d11.heap.size := ⟨_, rfl⟩
        rw [← ha] at hbk ⊢
        have sa5 : d11.heap.size ≤ a5 := by rw [ha]; exact SZ0.out
        have hbc := hbb.mono SZ0.out
        have HL42 := Lib.hid (HL12.out.below hbc)
        have HE42 := Lib.hid (HE12.out.below hbc)
        have HV42 := Lib.hid (HV12.out.below hbc)
        have HB42 := Lib.hid (HB12.out.trans (hbc.mono hwd))
        have P242 := Lib.hid (P212.out.below hbc)
        have KQ42 := Lib.hid (KQ12.out.below hbc lKQ)
        have SZ42 := Lib.hid (Nat.le_trans SZ0.out hbc.size)
        have N542 := Lib.hid (hbk)
        clear hbc HL12 HE12 HV12 HB12 P212 KQ12 SZ0 hbb hbk ha
        refine hK.out _ _ ⟨HB42.out, KQ42.out⟩ ?_
        clear hK K
        try simp only [Act.put, List.setIfInBounds_toArray, List.set_cons_zero, List.set_cons_succ]
        refine wpTr_one ?_
        refine stepTr_K (by simp only [List.getElem?_toArray, List.getElem?_cons_zero, List.getElem?_cons_succ]; rfl) (by rfl) (fun K hK => ?_)
        go_simp
        obtain ⟨n43, hv, hbb, hbk⟩ : ∃ v, v = n41.alloc (.cells #[] 25) ∧ Below n41.heap.size n41 v ∧ Blk v n41.heap.size 25 #[] := ⟨_, rfl, (Below.refl _ _).alloc (Nat.le_refl _) _, Blk.new _ _ _⟩
        rw [← hv]
        clear hv
        obtain ⟨g0, ha⟩ : ∃ a, a = n41.heap.size := ⟨_, rfl⟩
        rw [← ha] at hbk ⊢
        have sg0 : d11.heap.size ≤ g0 := by rw [ha]; exact SZ42.out
        have hown : n43.ownsRow g0 25 1 (.slice (some ⟨g0, 0, none⟩) 0 0) 0 [] := ⟨by simp, .inr ⟨g0, 0, #[], rfl, Nat.le_refl _, hbk, by omega, by simp [maxLen], by simp, by simp⟩⟩
        have hgn : g0 ≠ a5 := by have := N542.out.lt; omega
        have hbc := hbb.mono SZ42.out
        have HL44 := Lib.hid (HL42.out.below hbc)
        have HE44 := Lib.hid (HE42.out.below hbc)
        have HV44 := Lib.hid (HV42.out.below hbc)
        have HB44 := Lib.hid (HB42.out.trans (hbc.mono hwd))
        have P244 := Lib.hid (P242.out.below hbc)
        have KQ44 := Lib.hid (KQ42.out.below hbc lKQ)
        have SZ44 := Lib.hid (Nat.le_trans SZ42.out hbc.size)
        have OW44 := Lib.hid (hown)
        have GZ44 := Lib.hid (Nat.le_of_lt hbk.lt)
        have N544 := Lib.hid (N542.out.after hbb)
        clear hbc HL42 HE42 HV42 HB42 P242 KQ42 SZ42 N542 hbb hbk ha hown
        refine hK.out _ _ ⟨HB44.out, KQ44.out⟩ ?_
        clear hK K
        try simp only [Act.put, List.setIfInBounds_toArray, List.set_cons_zero, List.set_cons_succ]
        refine wpTr_one ?_
        refine stepTr_K (by simp only [List.getElem?_toArray, List.getElem?_cons_zero, List.getElem?_cons_succ]; rfl) (by rfl) (fun K hK => ?_)
        refine wp_append_row _ (.tmp 24) (.tmp 25) _ rfl g0 25 i0 _ 1 24 Try.underlying22 hi0 hz0 hz1 hz2 rfl (by omega) (.slice (some ⟨g0, 0, none⟩) 0 0) 0 [] rfl OW44.out d11.heap.size A l.length c vs rfl (by rw [HVL.out]; omega) HV44.out HE44.out.one (by simp only [maxLen]; omega) (by omega) GZ44.out ?_
        intro y u45 hown hg hat
        rw [Nat.zero_add, List.nil_append] at hown
        obtain ⟨A5, c5, rfl, x1, x2, x3⟩ := own_row hown
        have hbm : Below d11.heap.size n43 u45 := (Below.refl _ _).grown hg SZ44.out (fun g hg => Nat.le_trans sg0 (own_base OW44.out g hg))
        have hn5 : Blk u45 a5 25 #[.slice A2 last.length c2] := (hg.block a5 N544.out.lt (by simp [Value.ownBlock]; omega)).trans N544.out
        have hbc := hbm
        have HL46 := Lib.hid (HL44.out.below hbc)
        have HE46 := Lib.hid (HE44.out.below hbc)
        have HV46 := Lib.hid (HV44.out.below hbc)
        have HB46 := Lib.hid (HB44.out.trans (hbc.mono hwd))
        have P246 := Lib.hid (P244.out.below hbc)
        have KQ46 := Lib.hid (KQ44.out.below hbc lKQ)
        have SZ46 := Lib.hid (Nat.le_trans SZ44.out hbc.size)
        have GZ46 := Lib.hid (Nat.le_trans GZ44.out hbc.size)
        have OW46 := Lib.hid (hown)
        have N546 := Lib.hid (hn5)
        clear hbc HL44 HE44 HV44 HB44 P244 KQ44 SZ44 OW44 GZ44 N544 hown hg hat x3 hbm hn5
        clear x1 x2
        refine hK.out _ _ ⟨HB46.out, KQ46.out⟩ ?_
        clear hK K
        try simp only [Act.put, List.setIfInBounds_toArray, List.set_cons_zero, List.set_cons_succ]
        refine wpTr_one ?_
        refine stepTr_K (by simp only [List.getElem?_toArray, List.getElem?_cons_zero, List.getElem?_cons_succ]; rfl) (by rfl) (fun K hK => ?_)
        refine wp_append_row _ (.tmp 26) (.tmp 28) _ rfl g0 25 i0 _ 1 24 Try.underlying22 hi0 hz0 hz1 hz2 rfl (by omega) (.slice A5 l.length c5) l.length vs rfl OW46.out _ (some ⟨a5, 0, none⟩) 1 1 [.slice A2 last.length c2] rfl rfl (N546.out.row rfl) (by simp [Value.oneCell']) (by simp only [maxLen]; omega) (by omega) GZ46.out ?_
        intro y u47 hown hg hat
        obtain ⟨A6, c6, rfl, x1, x2, x3⟩ := own_row hown
        have hbm : Below d11.heap.size u45 u47 := (Below.refl _ _).grown hg SZ46.out (fun g hg => Nat.le_trans sg0 (own_base OW46.out g hg))
        have hbc := hbm
        have HL48 := Lib.hid (HL46.out.below hbc)
        have HE48 := Lib.hid (HE46.out.below hbc)
        have HV48 := Lib.hid (HV46.out.below hbc)
        have HB48 := Lib.hid (HB46.out.trans (hbc.mono hwd))
        have P248 := Lib.hid (P246.out.below hbc)
        have KQ48 := Lib.hid (KQ46.out.below hbc lKQ)
        have SZ48 := Lib.hid (Nat.le_trans SZ46.out hbc.size)
        have GZ48 := Lib.hid (Nat.le_trans GZ46.out hbc.size)
        have RV48 := Lib.hid (x3)
        clear hbc HL46 HE46 HV46 HB46 P246 KQ46 SZ46 GZ46 OW46 N546 hown hg hat x3 hbm
        clear x1 x2
        have HL49 := Lib.hid HL48.out.lt
        have HE49 := Lib.hid HE48.out.lt
        have P249 := Lib.hid P248.out.lt
        clear HL48 HE48 P248 HV48 SZ48 GZ48
        refine hK.out _ _ ⟨HB48.out, KQ48.out⟩ ?_
        clear hK K
        try simp only [Act.put, List.setIfInBounds_toArray, List.set_cons_zero, List.set_cons_succ]
        refine wpTr_one ?_
        refine stepTr_K (by simp only [List.getElem?_toArray, List.getElem?_cons_zero, List.getElem?_cons_succ]; rfl) (by rfl) (fun K hK => ?_)
        go_simp
        have hrw : Rows2 u47 u47.heap.size A6 (l ++ [last]) := ⟨vs ++ [.slice A2 last.length c2], by simp [HVL.out], RV48.out, (Els.snoc HE49.out lc2 lm2 HL49.out).2⟩
        have hcall := pack_gen A6 c6 (l ++ [last]) _ hrw (by rw [HLX.out]; omega) H20.out
        rw [HLX.out, ← HPK.out] at hcall
        refine (hcall).mono ?_
        rintro e w50 ⟨D1, d1, D2, d2, D3, d3, rfl, hp, hb⟩
        have hbc := hb
        have HL51 := Lib.hid ((HL49.out.below hbc).lt)
        have HE51 := Lib.hid ((HE49.out.below hbc).lt)
        have P251 := Lib.hid ((P249.out.below hbc).lt)
        have KQ51 := Lib.hid (KQ48.out.after hbc)
        have HB51 := Lib.hid (below_then HB48.out hbc (Nat.le_refl _))
        have RV51 := Lib.hid ((RV48.out.below hbc).lt)
        have P351 := Lib.hid (hp)
        clear hbc HL49 HE49 P249 KQ48 HB48 RV48 hb
        clear hp hcall hrw
        clear HE51
        clear RV51
        clear HL51
        refine hK.out _ _ ⟨HB51.out, KQ51.out⟩ ?_
        clear hK K
        try simp only [Act.put, List.setIfInBounds_toArray, List.set_cons_zero, List.set_cons_succ]
        refine wpTr_one ?_
        refine stepTr_K (by simp only [List.getElem?_toArray, List.getElem?_cons_zero, List.getElem?_cons_succ]; rfl) (by rfl) (fun K hK => ?_)
        go_simp
        refine (same_any B1 B2 B3 D1 D2 D3 b1 b2 b3 d1 d2 d3 q q _ P251.out P351.out rfl).mono ?_
        rintro e w52 ⟨rfl, hb⟩
        have hbc := hb
        have P253 := Lib.hid ((P251.out.below hbc).lt)
        have KQ53 := Lib.hid (KQ51.out.after hbc)
        have HB53 := Lib.hid (below_then HB51.out hbc (Nat.le_refl _))
        have P353 := Lib.hid ((P351.out.below hbc).lt)
        clear hbc P251 KQ51 HB51 P351 hb
        refine hK.out _ _ ⟨HB53.out, KQ53.out⟩ ?_
        clear hK K
        try simp only [Act.put, List.setIfInBounds_toArray, List.set_cons_zero, List.set_cons_succ]
        repeat (first
          | (refine wpTr_fskip (by simp only [List.getElem?_toArray, List.getElem?_cons_zero, List.getElem?_cons_succ]; rfl) (by rfl) ?_
             simp only [Act.put, List.setIfInBounds_toArray, List.set_cons_zero, List.set_cons_succ])
          | (refine wpTr_float (v := ?_) (by simp only [List.getElem?_toArray, List.getElem?_cons_zero, List.getElem?_cons_succ]; rfl) (by rfl) (fun w' hS => ?_) ?_
             rotate_left
             (obtain ⟨hSb, hSk⟩ := hS; obtain ⟨e0, e1, e2⟩ := hSk.cells3; have hls := hSk.lt; go_simp; first | done | rfl)
             simp only [Act.put, List.setIfInBounds_toArray, List.set_cons_zero, List.set_cons_succ]))
        refine wpTr_one ?_
        refine stepTr_K (by simp only [List.getElem?_toArray, List.getElem?_cons_zero, List.getElem?_cons_succ]; rfl) (by rfl) (fun K hK => ?_)
        go_simp
        refine (alive_any _).mono ?_
        rintro e w54 ⟨rfl, hb⟩
        have hbc := hb
        have P255 := Lib.hid ((P253.out.below hbc).lt)
        have KQ55 := Lib.hid (KQ53.out.after hbc)
        have HB55 := Lib.hid (below_then HB53.out hbc (Nat.le_refl _))
        have P355 := Lib.hid ((P353.out.below hbc).lt)
        clear hbc P253 KQ53 HB53 P353 hb
        refine hK.out _ _ ⟨HB55.out, KQ55.out⟩ ?_
        clear hK K
        try simp only [Act.put, List.setIfInBounds_toArray, List.set_cons_zero, List.set_cons_succ]
        repeat (first
          | (refine wpTr_fskip (by simp only [List.getElem?_toArray, List.getElem?_cons_zero, List.getElem?_cons_succ]; rfl) (by rfl) ?_
             simp only [Act.put, List.setIfInBounds_toArray, List.set_cons_zero, List.set_cons_succ])
          | (refine wpTr_float (v := ?_) (by simp only [List.getElem?_toArray, List.getElem?_cons_zero, List.getElem?_cons_succ]; rfl) (by rfl) (fun w' hS => ?_) ?_
             rotate_left
             (obtain ⟨hSb, hSk⟩ := hS; obtain ⟨e0, e1, e2⟩ := hSk.cells3; have hls := hSk.lt; go_simp; first | done | rfl)
             simp only [Act.put, List.setIfInBounds_toArray, List.set_cons_zero, List.set_cons_succ]))
        refine wpTr_done ?_
        go_wp2
        go_ret
        exact ⟨rfl, HB55.out⟩
theorem own : ownKnob Try.prog.godebug = none := by kernel_rfl
theorem laidOut : laidOutB Try.prog = true := by kernel_rfl
set_option maxRecDepth 100000 in
theorem lifted (os : Os) (started : os.Started) (H : Type) (enc : TypeId × Value → H) :
    ReturnsInHanded {} Try.checked os 7 .any (Rows.seqpoolStepsSpec.pre6 enc Try.prog Try.f7 Rows.seqpoolStepsRow.domain false) (Rows.seqpoolStepsSpec.post enc Try.prog Try.f7 false true false false) := by
  refine returnsInHanded_of_change (C := Try.checked) own started (by kernel_rfl) Try.func7
    (ChangeSpec.witness6 (enc := enc) (C := Try.checked) false ⟨#[], #[.slice none 0 0, .slice none 0 0], []⟩ 8 (by kernel_rfl) (by kernel_rfl) (by kernel_rfl) (by kernel_rfl)) ?_
  intro W base args ds gs before hval0 hW hcnd _
  have hval : ∀ (j : Nat) t v, Try.f7.params[j]? = some t → args[j]? = some v → Value.okWide Try.prog W .any base t v := hval0
  have hW' := hW
  obtain ⟨p, q, hA0, hV, rfl, hfz, hnd⟩ := hW
  have hA : DataW.TrodAll enc Try.prog W 0 (fun _ => true) true Try.f7.params.toList args.toList ds p := hA0
  rw [Try.params7] at hA hval
  obtain ⟨v0, v1, d0, d1, p0, p1, rfl, rfl, rfl, h0, h1⟩ := trodAll_two hA
  obtain ⟨rfl, rfl⟩ := trodVars_none hV
  obtain ⟨ad0, le0, ca0, rfl⟩ := okWide_slice Try.underlying22 (hval 0 22 v0 rfl rfl)
  obtain ⟨fu0, hf0⟩ := h0
  obtain ⟨A0, c0, xs0, hv0, hc0, hm0, hR0⟩ := open_rows2 (v := .slice ad0 le0 ca0) Try.underlying22 (by kernel_rfl) Try.underlying25 Try.underlying3 (by kernel_rfl) hf0
  injection hv0 with ea0 eb0 ec0
  subst ea0 eb0 ec0
  obtain ⟨ad1, le1, ca1, rfl⟩ := okWide_slice Try.underlying25 (hval 1 25 v1 rfl rfl)
  obtain ⟨fu1, hf1⟩ := h1
  obtain ⟨A1, c1, xs1, hv1, hc1, hm1, hR1, -⟩ := open_row (v := .slice ad1 le1 ca1) Try.underlying25 Try.underlying3 (by kernel_rfl) hf1
  injection hv1 with ea1 eb1 ec1
  subst ea1 eb1 ec1
  refine (walk W ad0 ca0 xs0 hc0 hm0 hR0 ad1 ca1 xs1 hc1 hm1 hR1).mono fun e W' ⟨he, hb⟩ => ⟨_, he, ?_⟩
  exact law_post laidOut (by rw [Try.params7]; exact of_decide_eq_true (by kernel_rfl)) rfl rfl Try.underlying4 hW' rfl hb
theorem holds : Rows.SeqpoolStepsSaid :=
  OpenClaim.holds_of_wide 7 Try.f7 rfl rfl rfl rfl rfl rfl rfl ⟨rfl, rfl, rfl, rfl, rfl⟩ rfl rfl rfl rfl rfl (by kernel_rfl) Try.func7 (by kernel_rfl)
    (of_decide_eq_true (by kernel_rfl)) (by unfold Func.isWrapper; first | (rw [if_pos (by decide +kernel)]; kernel_rfl) | (rw [if_neg (by decide +kernel)]; exact ⟨rfl, rfl⟩))
    (fun os started H enc _ => lifted os started H enc)
end Go.Proofs.Yteobffcnfigilaa.LSteps
namespace Go.Proofs.Yteobffcnfigilaa
theorem seqpoolSteps_holds : Rows.SeqpoolStepsSaid := LSteps.holds
end Go.Proofs.Yteobffcnfigilaa
