/-
  ref14.Get, Find, Same: walks.
-/
import Derived.Test.YteobffcnfigilaaProg
import Derived.Test.YteobffcnfigilaaBase
import Derived.Test.YteobffcnfigilaaApp
import Derived.Test.YteobffcnfigilaaTree
import Derived.Test.YteobffcnfigilaaSp5
import Derived.WalkKit
import Derived.KernelRfl
import Derived.Outline
import Derived.IntWalk
namespace Go.Proofs.Yteobffcnfigilaa
open Go.RowKit Go.UtYteobffcnfigilaa
attribute [local go_sem high] cut_l cut_lh cut_lhm cutA_zero
attribute [local go_sem 500] cut_any
theorem vld_calls2 (C S L : Option Addr) (cC cS cL : Nat) (p : Pl) (w : World) (hp : PlAt w w.heap.size C cC S cS L cL p) (hf : Fine p) (v : Bool) (hv : vld14 p = v) :
    Calls Try.prog 25 #[.agg #[.slice C p.C.length cC, .slice S p.S.length cS, .slice L p.L.length cL]] w fun e w' => e = .returned (.bool v) ∧ Below w.heap.size w w' := by
  obtain ⟨f1, f2, f3⟩ := hf
  exact valid2_any C S L cC cS cL _ _ p.S p.L w hp.r2 hp.r3 (Nat.le_refl _) (by omega) (Nat.le_trans hp.l2 hp.m2) (Nat.le_trans hp.l3 hp.m3) v hv
set_option maxHeartbeats 2000000 in
theorem get2_any (C S L : Option Addr) (cC cS cL : Nat) (p : Pl) (i : Int) (w : World) (hp : PlAt w w.heap.size C cC S cS L cL p) (hf : Fine p) (xs : List Int) (b : Bool) (hg : get14 p i = (xs, b)) :
    Calls Try.prog 23 #[.agg #[.slice C p.C.length cC, .slice S p.S.length cS, .slice L p.L.length cL], .int .i64 i] w (RetIB w xs b) := by
  have HG := Lib.hid hg
  have HF := Lib.hid hf
  have HPW := Lib.hid hp
  have HB0 : Hid (Below w.heap.size w (w.alloc (.cells #[.slice C p.C.length cC, .slice S p.S.length cS, .slice L p.L.length cL] 27))) := (Below.refl _ _).alloc (Nat.le_refl _) _
  have HX0 : Hid (Blk (w.alloc (.cells #[.slice C p.C.length cC, .slice S p.S.length cS, .slice L p.L.length cL] 27)) w.heap.size 27 #[.slice C p.C.length cC, .slice S p.S.length cS, .slice L p.L.length cL]) := Blk.new _ _ _
  have HP0 := Lib.hid (hp.below HB0.out).lt
  obtain ⟨f1, f2, f3⟩ := hf
  clear hg hp
  cases hv : vld14 p with
  | false =>
    have HV := Lib.hid hv
    have HE : Hid ((xs, b) = ([], false)) := by
      show _ = _
      rw [← HG.out, get14, if_neg (by rw [hv]; simp)]
    clear hv
    go_enter Try.func23, Try.ntmps23
    go_wp2_with fail
    refine (vld_calls2 C S L cC cS cL p _ HP0.out HF.out _ HV.out).mono ?_
    rintro e w1 ⟨rfl, hb1⟩
    have HB1 := Lib.hid (below_then HB0.out hb1 (Nat.le_refl _))
    clear hb1 HB0 HX0 HP0
    go_wp2
    go_ret2
    obtain ⟨rfl, rfl⟩ := Prod.mk.inj HE.out
    exact ⟨none, 0, rfl, by simp, by simp [maxLen], Row.nil, HB1.out⟩
  | true =>
    have HV := Lib.hid hv
    clear hv
    by_cases h1 : 0 ≤ i ∧ i < p.S.length
    · obtain ⟨k, rfl⟩ := Int.eq_ofNat_of_zero_le h1.1
      have hk : k < p.S.length := by omega
      have HE : Hid ((xs, b) = (seqAt p k, true)) := by
        show _ = _
        rw [← HG.out, get14, if_pos ⟨HV.out, h1⟩]
        rfl
      clear h1
      go_enter Try.func23, Try.ntmps23
      go_wp2_with fail
      refine (vld_calls2 C S L cC cS cL p _ HP0.out HF.out _ HV.out).mono ?_
      rintro e w1 ⟨rfl, hb1⟩
      have HB1 := Lib.hid (below_then HB0.out hb1 (Nat.le_refl _))
      have HX1 := Lib.hid (HX0.out.after hb1)
      have HP1 := Lib.hid (HP0.out.below hb1).lt
      obtain ⟨e0, e1, e2⟩ := HX1.out.cells3
      have hlt := HX1.out.lt
      clear hb1 HB0 HX0 HP0
      go_wp2_with fail
      clear e0 e1 e2 hlt
      obtain ⟨s, l, hs, hl, h, hq⟩ := vld_at HV.out hk
      have hl1 : k < p.L.length := (List.getElem?_eq_some_iff.1 hl).1
      have HQ := Lib.hid hq
      obtain ⟨b1, o1, x, rfl, hb1, hx, hc1⟩ := HPW.out.r2.at_int hk
      obtain ⟨b2, o2, y, rfl, hb2, hy, hc2⟩ := HPW.out.r3.at_int hl1
      obtain rfl : x = (s : Int) := Option.some.inj (hx.out.symm.trans hs)
      obtain rfl : y = (l : Int) := Option.some.inj (hy.out.symm.trans hl)
      have hcC : cC ≤ 9223372036854775807 := HP1.out.m1
      have hlc : p.C.length ≤ cC := HP1.out.l1
      obtain ⟨i0, hi0, hz0, hz1, hz2⟩ := info_parts int_info
      have k4 : IntKind.i64.wrap ((s : Int) + (l : Int)) = (s : Int) + (l : Int) := IntWalk.i64_in _ (by omega)
      have k5 : ((s : Int) + (l : Int)).toNat = s + l := by omega
      have k6 : (s : Int) ≤ (s : Int) + (l : Int) := by omega
      have k7 : (s : Int) + (l : Int) ≤ (cC : Int) := by omega
      have HC1 := Lib.hid hc1
      have HC2 := Lib.hid hc2
      clear hs hl hx hy hq hc1 hc2
      refine wp_region_tree (fun w' => Below w.heap.size w w' ∧ Blk w' w.heap.size 27 #[.slice C p.C.length cC, .slice (some ⟨b1, o1, none⟩) p.S.length cS, .slice (some ⟨b2, o2, none⟩) p.L.length cL]) (.float 1 (.float 2 (.float 3 (.float 4 (.float 5 (.float 6 (.float 7 (.float 8 (.float 9 (.float 10 (.float 11 (.float 12 (.float 13 (.float 14 (.float 15 (.float 16 (.float 17 (.float 18 (.float 19 (.one 0 (.one 20 (.float 21 (.float 22 .done))))))))))))))))))))))) (by kernel_rfl) (by kernel_rfl) (fun _ _ d _ _ h => by cases d <;> exact h) ⟨HB1.out.drew, HX1.out.drew⟩ ?_
      obtain ⟨d1, hdr, hbd⟩ : ∃ d, d = w1.drew ∧ Below w1.heap.size w1 d := ⟨_, rfl, (Below.refl _ _).drew⟩
      rw [← hdr]
      clear hdr
      have hbc := hbd
      have HX2 := Lib.hid (HX1.out.after hbc)
      have HB2 := Lib.hid (below_then HB1.out hbc (Nat.le_refl _))
      have HP2 := Lib.hid ((HP1.out.below hbc).lt)
      clear hbc HX1 HB1 HP1 hbd
      repeat (first
        | (refine wpTr_fskip (by simp only [List.getElem?_toArray, List.getElem?_cons_zero, List.getElem?_cons_succ]; rfl) (by rfl) ?_
           simp only [Act.put, List.setIfInBounds_toArray, List.set_cons_zero, List.set_cons_succ])
        | (refine wpTr_float (v := ?_) (by simp only [List.getElem?_toArray, List.getElem?_cons_zero, List.getElem?_cons_succ]; rfl) (by rfl) (fun w' hS => ?_) ?_
           rotate_left
           (obtain ⟨hSb, hSk⟩ := hS; obtain ⟨e0, e1, e2⟩ := hSk.cells3; have hls := hSk.lt; have hq1 := (hSb.cell (p := ⟨b1, o1 + k, none⟩) hb1).trans HC1.out; have hq2 := (hSb.cell (p := ⟨b2, o2 + k, none⟩) hb2).trans HC2.out; go_simp; first | done | rfl)
           simp only [Act.put, List.setIfInBounds_toArray, List.set_cons_zero, List.set_cons_succ]))
      refine wpTr_one ?_
      refine stepTr_K (by simp only [List.getElem?_toArray, List.getElem?_cons_zero]; rfl) (by rfl) (fun K hK => ?_)
      go_simp
      obtain ⟨b3, hv, hbb⟩ : ∃ v, v = d1.alloc (.cells #[] 3) ∧ Below d1.heap.size d1 v := ⟨_, rfl, (Below.refl _ _).alloc (Nat.le_refl _) _⟩
      rw [← hv]
      clear hv
      have hbc := hbb
      have HX4 := Lib.hid (HX2.out.after hbc)
      have HB4 := Lib.hid (below_then HB2.out hbc (Nat.le_refl _))
      have HP4 := Lib.hid ((HP2.out.below hbc).lt)
      clear hbc HX2 HB2 HP2 hbb
      refine hK.out _ _ ⟨HB4.out, HX4.out⟩ ?_
      clear hK K
      try simp only [Act.put, List.setIfInBounds_toArray, List.set_cons_zero, List.set_cons_succ]
      refine wpTr_one ?_
      refine stepTr_K (by simp only [List.getElem?_toArray, List.getElem?_cons_zero, List.getElem?_cons_succ]; rfl) (by rfl) (fun K hK => ?_)
      clear k4 k5 k6 k7
      refine wp_append_full _ (.tmp 20) (.tmp 39) _ rfl 3 i0 _ 1 8 Try.underlying25 hi0 hz0 hz1 hz2 rfl (by omega) 0 (some ⟨d1.heap.size, 0, none⟩) 0 [] rfl (by simp) Row.nil (by simp) b3.heap.size (cutA C cC s 1) l (cC - s) (ints ((p.C.drop s).take l)) (by simp [Act.eval]) (by rw [ints_len]; simp; omega) ?_ (ints_one _) (by simp only [maxLen]; omega) (by omega) ?_
      · have hr := HP4.out.r1.cut (l := s) (m := cC) (s := 1) (j := l) (.inl (by rw [ints_len]; omega))
        rw [Nat.mul_one] at hr
        rw [ints_take, ints_drop]
        exact hr
      intro A3 c3 w3 q1 q2 q3 q4 q5
      have q1x : (seqAt p k).length ≤ c3 := by rw [HQ.out]; simp; omega
      have q3x : Row w3 w3.heap.size A3 (ints (seqAt p k)) := by rw [HQ.out]; simpa using q3
      have qn : 0 + l = (seqAt p k).length := by rw [HQ.out]; simp; omega
      rw [qn]
      have hbc := q4
      have HX5 := Lib.hid (HX4.out.after hbc)
      have HB5 := Lib.hid (below_then HB4.out hbc (Nat.le_refl _))
      have HP5 := Lib.hid ((HP4.out.below hbc).lt)
      have HR5 := Lib.hid (q3x)
      clear hbc HX4 HB4 HP4 q1 q3 q3x q4 q5 qn
      refine hK.out _ _ ⟨HB5.out, HX5.out⟩ ?_
      clear hK K
      try simp only [Act.put, List.setIfInBounds_toArray, List.set_cons_zero, List.set_cons_succ]
      repeat (first
        | (refine wpTr_fskip (by simp only [List.getElem?_toArray, List.getElem?_cons_zero, List.getElem?_cons_succ]; rfl) (by rfl) ?_
           simp only [Act.put, List.setIfInBounds_toArray, List.set_cons_zero, List.set_cons_succ])
        | (refine wpTr_float (v := ?_) (by simp only [List.getElem?_toArray, List.getElem?_cons_zero, List.getElem?_cons_succ]; rfl) (by rfl) (fun w' hS => ?_) ?_
           rotate_left
           (obtain ⟨hSb, hSk⟩ := hS; obtain ⟨e0, e1, e2⟩ := hSk.cells3; have hls := hSk.lt; have hq1 := (hSb.cell (p := ⟨b1, o1 + k, none⟩) hb1).trans HC1.out; have hq2 := (hSb.cell (p := ⟨b2, o2 + k, none⟩) hb2).trans HC2.out; go_simp; first | done | rfl)
           simp only [Act.put, List.setIfInBounds_toArray, List.set_cons_zero, List.set_cons_succ]))
      refine wpTr_done ?_
      go_wp2
      go_ret2
      obtain ⟨rfl, rfl⟩ := Prod.mk.inj HE.out
      exact ⟨A3, c3, rfl, q1x, q2, HR5.out, HB5.out⟩
    · have HE : Hid ((xs, b) = ([], false)) := by
        show _ = _
        rw [← HG.out, get14, if_neg (by intro h; exact h1 h.2)]
      have h2 : i < 0 ∨ (p.S.length : Int) ≤ i := by omega
      clear h1
      rcases h2 with h2 | h2
      all_goals
        go_enter Try.func23, Try.ntmps23
        go_wp2_with fail
        refine (vld_calls2 C S L cC cS cL p _ HP0.out HF.out _ HV.out).mono ?_
        rintro e w1 ⟨rfl, hb1⟩
        have HB1 := Lib.hid (below_then HB0.out hb1 (Nat.le_refl _))
        have HX1 := Lib.hid (HX0.out.after hb1)
        obtain ⟨e0, e1, e2⟩ := HX1.out.cells3
        have hlt := HX1.out.lt
        clear hb1 HB0 HX0 HP0
        go_wp2
        all_goals
          go_ret2
          obtain ⟨rfl, rfl⟩ := Prod.mk.inj HE.out
          exact ⟨none, 0, rfl, by simp, by simp [maxLen], Row.nil, HB1.out⟩
theorem get_at {p : Pl} {k : Nat} (hv : vld14 p = true) (hk : k < p.S.length) : get14 p (k : Int) = (seqAt p k, true) := by
  unfold get14
  rw [if_pos ⟨hv, by omega, by omega⟩]
  rfl
theorem get_bad {p : Pl} {i : Int} (hv : vld14 p = false) : get14 p i = ([], false) := by
  unfold get14
  rw [if_neg (by rw [hv]; simp)]
theorem find_bad {p : Pl} {seq : List Int} (hv : vld14 p = false) : find14 p seq = (0, false) := by
  unfold find14
  rw [if_neg (by rw [hv]; simp)]
set_option maxHeartbeats 2000000 in
theorem find2_any (C S L A : Option Addr) (cC cS cL c : Nat) (p : Pl) (seq : List Int) (w : World) (hp : PlAt w w.heap.size C cC S cS L cL p) (hf : Fine p) (hA : Row w w.heap.size A (ints seq)) (ls : seq.length ≤ maxLen) (n : Int) (b : Bool) (hg : find14 p seq = (n, b)) :
    Calls Try.prog 20 #[.agg #[.slice C p.C.length cC, .slice S p.S.length cS, .slice L p.L.length cL], .slice A seq.length c] w (RetNB w n b) := by
  have HG := Lib.hid hg
  have HF := Lib.hid hf
  have HLS := Lib.hid ls
  have HB0 : Hid (Below w.heap.size w (w.alloc (.cells #[.slice C p.C.length cC, .slice S p.S.length cS, .slice L p.L.length cL] 27))) := (Below.refl _ _).alloc (Nat.le_refl _) _
  have HX0 : Hid (Blk (w.alloc (.cells #[.slice C p.C.length cC, .slice S p.S.length cS, .slice L p.L.length cL] 27)) w.heap.size 27 #[.slice C p.C.length cC, .slice S p.S.length cS, .slice L p.L.length cL]) := Blk.new _ _ _
  have HP0 := Lib.hid (hp.below HB0.out).lt
  have HA0 := Lib.hid (hA.below HB0.out).lt
  obtain ⟨f1, f2, f3⟩ := hf
  clear hg hp hA ls
  go_enter Try.func20, Try.ntmps20
  go_wp2_with fail
  go_loopw [6] (fun i wr => ∃ k : Nat, k ≤ p.S.length ∧ i = .int .i64 k ∧ Hid (vld14 p = true → ∀ j, j < k → seqAt p j ≠ seq) ∧ Hid (Below w.heap.size w wr) ∧ Hid (Blk wr w.heap.size 27 #[.slice C p.C.length cC, .slice S p.S.length cS, .slice L p.L.length cL]) ∧ Hid (PlAt wr wr.heap.size C cC S cS L cL p) ∧ Hid (Row wr wr.heap.size A (ints seq))) (fun i _ => p.S.length - (intOf i).toNat)
  case atStart => exact ⟨0, by omega, rfl, fun _ j hj => by omega, HB0, HX0, HP0, HA0⟩
  case round =>
    obtain ⟨k, hk, rfl, HK, HB, HX, HP, HA⟩ := hrel
    obtain ⟨e0, e1, e2⟩ := HX.out.cells3
    have hlt := HX.out.lt
    by_cases h1 : k < p.S.length
    · obtain ⟨bv, hv⟩ : ∃ b, vld14 p = b := ⟨_, rfl⟩
      cases bv with
      | false =>
        have HV := Lib.hid hv
        clear hv
        go_wp2_with fail
        refine (get2_any C S L cC cS cL p _ _ HP.out HF.out [] false (get_bad HV.out)).mono ?_
        rintro e w2 ⟨A2, c2, rfl, g1, g2, g3, g4⟩
        have HB2 := Lib.hid (below_then HB.out g4 (Nat.le_refl _))
        have HX2 := Lib.hid (HX.out.after g4)
        have HP2 := Lib.hid (HP.out.below g4).lt
        have HA2 := Lib.hid (HA.out.below g4).lt
        clear g3 g4 e0 e1 e2 hlt
        go_wp2
        go_roundw
        case rel => exact ⟨k + 1, by omega, by go_num, (fun h => by rw [HV.out] at h; cases h), HB2, HX2, HP2, HA2⟩
        case measure => simp [intOf]; omega
      | true =>
        have HV := Lib.hid hv
        clear hv
        go_wp2_with fail
        refine (get2_any C S L cC cS cL p _ _ HP.out HF.out (seqAt p k) true (get_at HV.out h1)).mono ?_
        rintro e w2 ⟨A2, c2, rfl, g1, g2, g3, g4⟩
        have HB2 := Lib.hid (below_then HB.out g4 (Nat.le_refl _))
        have HX2 := Lib.hid (HX.out.after g4)
        have HP2 := Lib.hid (HP.out.below g4).lt
        have HA2 := Lib.hid (HA.out.below g4).lt
        have HR2 := Lib.hid g3
        have hsl := seqAt_len (p := p) (k := k)
        clear g3 g4 e0 e1 e2 hlt
        cases hd : decide (seqAt p k = seq) with
        | true =>
          have HD := Lib.hid hd
          have HE := Lib.hid (HG.out.symm.trans (find_yes HV.out h1 (of_decide_eq_true hd) (HK.out HV.out)))
          clear hd
          go_wp2_with fail
          refine (requal_b A2 A c2 c _ (seqAt p k) seq _ HR2.out HA2.out (by simp only [maxLen]; omega) HLS.out true HD.out).mono ?_
          rintro e w3 ⟨rfl, hb3⟩
          have HB3 := Lib.hid (below_then HB2.out hb3 (Nat.le_refl _))
          clear hb3
          go_wp2
          go_ret2
          obtain ⟨rfl, rfl⟩ := Prod.mk.inj HE.out
          exact ⟨rfl, HB3.out⟩
        | false =>
          have HD := Lib.hid hd
          have HN : Hid (vld14 p = true → ∀ j, j < k + 1 → seqAt p j ≠ seq) := fun hv j hj => by
            rcases Nat.lt_succ_iff_lt_or_eq.1 hj with h2 | rfl
            · exact HK.out hv j h2
            · exact of_decide_eq_false hd
          clear hd
          go_wp2_with fail
          refine (requal_b A2 A c2 c _ (seqAt p k) seq _ HR2.out HA2.out (by simp only [maxLen]; omega) HLS.out false HD.out).mono ?_
          rintro e w3 ⟨rfl, hb3⟩
          have HB3 := Lib.hid (below_then HB2.out hb3 (Nat.le_refl _))
          have HX3 := Lib.hid (HX2.out.after hb3)
          have HP3 := Lib.hid (HP2.out.below hb3).lt
          have HA3 := Lib.hid (HA2.out.below hb3).lt
          clear hb3
          go_wp2
          go_roundw
          case rel => exact ⟨k + 1, by omega, by go_num, HN, HB3, HX3, HP3, HA3⟩
          case measure => simp [intOf]; omega
    · have HE : Hid ((n, b) = (0, false)) := by
        show _ = _
        rw [← HG.out]
        cases hv : vld14 p with
        | false => exact find_bad hv
        | true => exact find_no hv (fun j hj => HK.out hv j (by omega))
      go_wp2
      go_ret2
      obtain ⟨rfl, rfl⟩ := Prod.mk.inj HE.out
      exact ⟨rfl, HB.out⟩
set_option maxHeartbeats 2000000 in
theorem same_any (C S L C' S' L' : Option Addr) (cC cS cL cC' cS' cL' : Nat) (p q : Pl) (w : World) (hp : PlAt w w.heap.size C cC S cS L cL p) (hq : PlAt w w.heap.size C' cC' S' cS' L' cL' q) (h : p = q) :
    Calls Try.prog 12 #[.agg #[.slice C p.C.length cC, .slice S p.S.length cS, .slice L p.L.length cL], .agg #[.slice C' q.C.length cC', .slice S' q.S.length cS', .slice L' q.L.length cL']] w fun e w' => e = .returned (.bool true) ∧ Below w.heap.size w w' := by
  subst h
  obtain ⟨v, hv, bX, bY, bB⟩ : ∃ v, v = (w.alloc (.cells #[.slice C p.C.length cC, .slice S p.S.length cS, .slice L p.L.length cL] 27)).alloc (.cells #[.slice C' p.C.length cC', .slice S' p.S.length cS', .slice L' p.L.length cL'] 27) ∧
      Blk v w.heap.size 27 #[.slice C p.C.length cC, .slice S p.S.length cS, .slice L p.L.length cL] ∧ Blk v (w.heap.size + 1) 27 #[.slice C' p.C.length cC', .slice S' p.S.length cS', .slice L' p.L.length cL'] ∧ Below w.heap.size w v :=
    ⟨_, rfl, (Blk.new _ _ _).alloc _, Blk.at_new (by simp), ((Below.refl _ _).alloc (Nat.le_refl _) _).alloc (by simp) _⟩
  have HVW := Lib.hid hv
  have HX := Lib.hid bX
  have HY := Lib.hid bY
  have HB := Lib.hid bB
  have HP := Lib.hid (hp.below bB).lt
  have HQ := Lib.hid (hq.below bB).lt
  have l1 := Lib.hid (Nat.le_trans hp.l1 hp.m1)
  have l2 := Lib.hid (Nat.le_trans hp.l2 hp.m2)
  have l3 := Lib.hid (Nat.le_trans hp.l3 hp.m3)
  clear hv bX bY bB hp hq
  go_enter Try.func12, Try.ntmps12
  go_wp2_with fail
  rw [← HVW.out]
  clear HVW
  refine (requal_b C C' cC cC' _ p.C p.C _ HP.out.r1 HQ.out.r1 l1.out l1.out true (by simp)).mono ?_
  rintro e w1 ⟨rfl, hb1⟩
  have HX1 := Lib.hid (HX.out.after hb1)
  have HY1 := Lib.hid (HY.out.after hb1)
  have HB1 := Lib.hid (below_then HB.out hb1 (Nat.le_refl _))
  have HP1 := Lib.hid (HP.out.below hb1).lt
  have HQ1 := Lib.hid (HQ.out.below hb1).lt
  clear hb1 HX HY HB HP HQ
  obtain ⟨e0, e1, e2⟩ := HX1.out.cells3
  obtain ⟨e3, e4, e5⟩ := HY1.out.cells3
  have x1 := HX1.out.lt
  have x2 := HY1.out.lt
  go_wp2_with fail
  refine (requal_b S S' cS cS' _ p.S p.S _ HP1.out.r2 HQ1.out.r2 l2.out l2.out true (by simp)).mono ?_
  rintro e w2 ⟨rfl, hb2⟩
  have HX2 := Lib.hid (HX1.out.after hb2)
  have HY2 := Lib.hid (HY1.out.after hb2)
  have HB2 := Lib.hid (below_then HB1.out hb2 (Nat.le_refl _))
  have HP2 := Lib.hid (HP1.out.below hb2).lt
  have HQ2 := Lib.hid (HQ1.out.below hb2).lt
  clear hb2 HX1 HY1 HB1 HP1 HQ1 e0 e1 e2 e3 e4 e5 x1 x2
  obtain ⟨e0, e1, e2⟩ := HX2.out.cells3
  obtain ⟨e3, e4, e5⟩ := HY2.out.cells3
  have x1 := HX2.out.lt
  have x2 := HY2.out.lt
  go_wp2_with fail
  refine (requal_b L L' cL cL' _ p.L p.L _ HP2.out.r3 HQ2.out.r3 l3.out l3.out true (by simp)).mono ?_
  rintro e w3 ⟨rfl, hb3⟩
  have HB3 := Lib.hid (below_then HB2.out hb3 (Nat.le_refl _))
  clear hb3
  go_wp2
  go_ret
  exact ⟨rfl, HB3.out⟩
end Go.Proofs.Yteobffcnfigilaa
