/-
  SeqpoolKeeps: for every input the law returns true, and its arguments read as before. No condition.
-/
import Derived.Test.YteobffcnfigilaaRows
import Derived.Test.YteobffcnfigilaaLift
import Derived.Test.YteobffcnfigilaaLst
import Derived.Test.YteobffcnfigilaaSp10
import Derived.Test.YteobffcnfigilaaTree
import Derived.Deep.DeepCutAuto
import Derived.Deep.CutBlock
import Derived.IntWalk
namespace Go.Proofs.Yteobffcnfigilaa.LKeeps
open Go.ChangeShapes Go.WideShapes Go.ChangeAt Go.RowKit Go.UtYteobffcnfigilaa Go.Joins
attribute [local go_sem high] cut_l cut_lh cut_lhm cutA_zero
attribute [local go_sem 500] cut_any
set_option maxRecDepth 100000 in
set_option maxHeartbeats 4000000 in
theorem walk (w : World) (C : Option Addr) (cC : Nat) (S : Option Addr) (cS : Nat) (L : Option Addr) (cL : Nat) (p : Pl) (hp : PlAt w w.heap.size C cC S cS L cL p) (A : Option Addr) (c : Nat) (seq : List Int) (lc : seq.length ≤ c) (lm : c ≤ maxLen) (hA : Row w w.heap.size A (ints seq)) :
    Calls Try.prog 10 #[.agg #[.slice C p.C.length cC, .slice S p.S.length cS, .slice L p.L.length cL], .slice A seq.length c] w fun e w' => e = .returned (.bool true) ∧ Below w.heap.size w w' := by
  have HP0 := Lib.hid hp
  have HA0 := Lib.hid hA
  clear hp hA
  have HB0 := Lib.hid (Below.refl w.heap.size w)
  obtain ⟨bHD, hd⟩ : ∃ b, decide (p.C.length ≤ 200 ∧ p.S.length ≤ 40 ∧ p.L.length ≤ 40) = b := ⟨_, rfl⟩
  have HD := Lib.hid hd
  cases bHD with
  | false =>
    clear hd
    go_enter Try.func10, Try.ntmps10
    go_wp2_with fail
    obtain ⟨n1, hv, hbb, hk0⟩ : ∃ v, v = (w.alloc (.cells #[.slice C p.C.length cC, .slice S p.S.length cS, .slice L p.L.length cL] 27)) ∧ Below w.heap.size w v ∧ Blk v (w.heap.size) 27 #[.slice C p.C.length cC, .slice S p.S.length cS, .slice L p.L.length cL] :=
      ⟨_, rfl, (Below.refl _ _).alloc (Nat.le_refl _) _, Blk.at_new (by simp; try omega)⟩
    rw [← hv]
    clear hv
    have hbc := hbb
    have HP2 := Lib.hid ((HP0.out.below hbc).lt)
    have HA2 := Lib.hid ((HA0.out.below hbc).lt)
    have HB2 := Lib.hid (below_then HB0.out hbc (Nat.le_refl _))
    have KP2 := Lib.hid (hk0)
    clear hbc HP0 HA0 HB0 hbb hk0
    refine (small_any C S L _ _ _ cC cS cL _ _ HD.out).mono ?_
    rintro e w3 ⟨rfl, hb⟩
    have hbc := hb
    have HP4 := Lib.hid ((HP2.out.below hbc).lt)
    have HA4 := Lib.hid ((HA2.out.below hbc).lt)
    have HB4 := Lib.hid (below_then HB2.out hbc (Nat.le_refl _))
    have KP4 := Lib.hid (KP2.out.after hbc)
    clear hbc HP2 HA2 HB2 KP2 hb
    go_wp2_with fail
    refine (alive_any _).mono ?_
    rintro e w5 ⟨rfl, hb⟩
    have hbc := hb
    have HP6 := Lib.hid ((HP4.out.below hbc).lt)
    have HA6 := Lib.hid ((HA4.out.below hbc).lt)
    have HB6 := Lib.hid (below_then HB4.out hbc (Nat.le_refl _))
    have KP6 := Lib.hid (KP4.out.after hbc)
    clear hbc HP4 HA4 HB4 KP4 hb
    go_wp2
    go_ret
    exact ⟨rfl, HB6.out⟩
  | true =>
    obtain ⟨f1, f2, f3⟩ := of_decide_eq_true hd
    clear hd
    by_cases h20 : 20 < seq.length
    · go_enter Try.func10, Try.ntmps10
      go_wp2_with fail
      obtain ⟨n7, hv, hbb, hk0⟩ : ∃ v, v = (w.alloc (.cells #[.slice C p.C.length cC, .slice S p.S.length cS, .slice L p.L.length cL] 27)) ∧ Below w.heap.size w v ∧ Blk v (w.heap.size) 27 #[.slice C p.C.length cC, .slice S p.S.length cS, .slice L p.L.length cL] :=
        ⟨_, rfl, (Below.refl _ _).alloc (Nat.le_refl _) _, Blk.at_new (by simp; try omega)⟩
      rw [← hv]
      clear hv
      have hbc := hbb
      have HP8 := Lib.hid ((HP0.out.below hbc).lt)
      have HA8 := Lib.hid ((HA0.out.below hbc).lt)
      have HB8 := Lib.hid (below_then HB0.out hbc (Nat.le_refl _))
      have KP8 := Lib.hid (hk0)
      clear hbc HP0 HA0 HB0 hbb hk0
      refine (small_any C S L _ _ _ cC cS cL _ _ HD.out).mono ?_
      rintro e w9 ⟨rfl, hb⟩
      have hbc := hb
      have HP10 := Lib.hid ((HP8.out.below hbc).lt)
      have HA10 := Lib.hid ((HA8.out.below hbc).lt)
      have HB10 := Lib.hid (below_then HB8.out hbc (Nat.le_refl _))
      have KP10 := Lib.hid (KP8.out.after hbc)
      clear hbc HP8 HA8 HB8 KP8 hb
      go_wp2_with fail
      refine (alive_any _).mono ?_
      rintro e w11 ⟨rfl, hb⟩
      have hbc := hb
      have HP12 := Lib.hid ((HP10.out.below hbc).lt)
      have HA12 := Lib.hid ((HA10.out.below hbc).lt)
      have HB12 := Lib.hid (below_then HB10.out hbc (Nat.le_refl _))
      have KP12 := Lib.hid (KP10.out.after hbc)
      clear hbc HP10 HA10 HB10 KP10 hb
      go_wp2
      go_ret
      exact ⟨rfl, HB12.out⟩
    · obtain ⟨bHV, hv⟩ : ∃ b, vld14 p = b := ⟨_, rfl⟩
      have HV := Lib.hid hv
      cases bHV with
      | false =>
        clear hv
        go_enter Try.func10, Try.ntmps10
        go_wp2_with fail
        obtain ⟨n13, hv, hbb, hk0⟩ : ∃ v, v = (w.alloc (.cells #[.slice C p.C.length cC, .slice S p.S.length cS, .slice L p.L.length cL] 27)) ∧ Below w.heap.size w v ∧ Blk v (w.heap.size) 27 #[.slice C p.C.length cC, .slice S p.S.length cS, .slice L p.L.length cL] :=
          ⟨_, rfl, (Below.refl _ _).alloc (Nat.le_refl _) _, Blk.at_new (by simp; try omega)⟩
        rw [← hv]
        clear hv
        have hbc := hbb
        have HP14 := Lib.hid ((HP0.out.below hbc).lt)
        have HA14 := Lib.hid ((HA0.out.below hbc).lt)
        have HB14 := Lib.hid (below_then HB0.out hbc (Nat.le_refl _))
        have KP14 := Lib.hid (hk0)
        clear hbc HP0 HA0 HB0 hbb hk0
        refine (small_any C S L _ _ _ cC cS cL _ _ HD.out).mono ?_
        rintro e w15 ⟨rfl, hb⟩
        have hbc := hb
        have HP16 := Lib.hid ((HP14.out.below hbc).lt)
        have HA16 := Lib.hid ((HA14.out.below hbc).lt)
        have HB16 := Lib.hid (below_then HB14.out hbc (Nat.le_refl _))
        have KP16 := Lib.hid (KP14.out.after hbc)
        clear hbc HP14 HA14 HB14 KP14 hb
        obtain ⟨eKP0, eKP1, eKP2⟩ := KP16.out.cells3
        have lKP := KP16.out.lt
        go_wp2_with fail
        clear eKP0 eKP1 eKP2 lKP
        refine (vld_calls C S L cC cS cL p _ HP16.out ⟨by omega, by omega, by omega⟩ _ HV.out).mono ?_
        rintro e w17 ⟨rfl, hb⟩
        have hbc := hb
        have HP18 := Lib.hid ((HP16.out.below hbc).lt)
        have HA18 := Lib.hid ((HA16.out.below hbc).lt)
        have HB18 := Lib.hid (below_then HB16.out hbc (Nat.le_refl _))
        have KP18 := Lib.hid (KP16.out.after hbc)
        clear hbc HP16 HA16 HB16 KP16 hb
        go_wp2_with fail
        refine (alive_any _).mono ?_
        rintro e w19 ⟨rfl, hb⟩
        have hbc := hb
        have HP20 := Lib.hid ((HP18.out.below hbc).lt)
        have HA20 := Lib.hid ((HA18.out.below hbc).lt)
        have HB20 := Lib.hid (below_then HB18.out hbc (Nat.le_refl _))
        have KP20 := Lib.hid (KP18.out.after hbc)
        clear hbc HP18 HA18 HB18 KP18 hb
        go_wp2
        go_ret
        exact ⟨rfl, HB20.out⟩
      | true =>
        obtain ⟨q, hq⟩ : ∃ q, add14 p seq = q := ⟨_, rfl⟩
        have HQ := Lib.hid hq
        have HO := Lib.hid (own_add hv)
        have HVQ : Hid (vld14 q = true) := by show _ = _; rw [← hq]; exact vld_add hv seq
        have hs1 : q.S.length = p.S.length + 1 := by rw [← hq]; simp [add14]
        have hs2 : q.L.length = p.L.length + 1 := by rw [← hq]; simp [add14]
        obtain ⟨c1, c2, c3⟩ := put_len p.C seq
        have hs3 : p.C.length ≤ q.C.length := by rw [← hq]; exact c3
        have hs4 : q.C.length ≤ p.C.length + seq.length := by rw [← hq]; exact c2
        have HTK : Hid (q.C.take p.C.length = p.C) := by show _ = _; rw [← hq]; exact put_take p.C seq
        have HOLD : Hid (∀ j, j < p.S.length → seqAt q j = seqAt p j) := fun j hj => by rw [← hq]; exact seqAt_old hv seq hj
        have HNEW : Hid (seqAt q p.S.length = seq) := by show _ = _; rw [← hq]; exact seqAt_new hv seq
        have hs1' : q.S.length ≤ p.S.length + 1 := by omega
        have hs1'' : p.S.length + 1 ≤ q.S.length := by omega
        have hs2' : q.L.length ≤ p.L.length + 1 := by omega
        have v1 : ((q.S.length : Int) != (p.S.length : Int) + 1) = false := by simp; omega
        have v2 : decide ((q.C.length : Int) < (p.C.length : Int)) = false := decide_eq_false (by omega)
        have v3 : decide ((p.C.length : Int) + (seq.length : Int) < (q.C.length : Int)) = false := decide_eq_false (by omega)
        have v2n : decide (q.C.length < p.C.length) = false := decide_eq_false (by omega)
        have v4 : IntKind.i64.wrap ((p.C.length : Int) + (seq.length : Int)) = (p.C.length : Int) + (seq.length : Int) := IntWalk.i64_in _ (by omega)
        have v5 : IntKind.i64.wrap ((p.S.length : Int) + 1) = (p.S.length : Int) + 1 := IntWalk.i64_in _ (by omega)
        clear hq hv hs1 hs2 c1 c2 c3
        go_enter Try.func10, Try.ntmps10
        go_wp2_with fail
        obtain ⟨n21, hv, hbb, hk0⟩ : ∃ v, v = (w.alloc (.cells #[.slice C p.C.length cC, .slice S p.S.length cS, .slice L p.L.length cL] 27)) ∧ Below w.heap.size w v ∧ Blk v (w.heap.size) 27 #[.slice C p.C.length cC, .slice S p.S.length cS, .slice L p.L.length cL] :=
          ⟨_, rfl, (Below.refl _ _).alloc (Nat.le_refl _) _, Blk.at_new (by simp; try omega)⟩
        rw [← hv]
        clear hv
        have hbc := hbb
        have HP22 := Lib.hid ((HP0.out.below hbc).lt)
        have HA22 := Lib.hid ((HA0.out.below hbc).lt)
        have HB22 := Lib.hid (below_then HB0.out hbc (Nat.le_refl _))
        have KP22 := Lib.hid (hk0)
        clear hbc HP0 HA0 HB0 hbb hk0
        refine (small_any C S L _ _ _ cC cS cL _ _ HD.out).mono ?_
        rintro e w23 ⟨rfl, hb⟩
        have hbc := hb
        have HP24 := Lib.hid ((HP22.out.below hbc).lt)
        have HA24 := Lib.hid ((HA22.out.below hbc).lt)
        have HB24 := Lib.hid (below_then HB22.out hbc (Nat.le_refl _))
        have KP24 := Lib.hid (KP22.out.after hbc)
        clear hbc HP22 HA22 HB22 KP22 hb
        obtain ⟨eKP0, eKP1, eKP2⟩ := KP24.out.cells3
        have lKP := KP24.out.lt
        go_wp2_with fail
        clear eKP0 eKP1 eKP2 lKP
        refine (vld_calls C S L cC cS cL p _ HP24.out ⟨by omega, by omega, by omega⟩ _ HV.out).mono ?_
        rintro e w25 ⟨rfl, hb⟩
        have hbc := hb
        have HP26 := Lib.hid ((HP24.out.below hbc).lt)
        have HA26 := Lib.hid ((HA24.out.below hbc).lt)
        have HB26 := Lib.hid (below_then HB24.out hbc (Nat.le_refl _))
        have KP26 := Lib.hid (KP24.out.after hbc)
        clear hbc HP24 HA24 HB24 KP24 hb
        obtain ⟨eKP0, eKP1, eKP2⟩ := KP26.out.cells3
        have lKP := KP26.out.lt
        go_wp2_with fail
        clear eKP0 eKP1 eKP2 lKP
        have hcall := addP_any C S L A cC cS cL c p seq _ HP26.out ⟨by omega, by omega, by omega⟩ HA26.out lc lm (by omega) p HO.out
        rw [HQ.out] at hcall
        refine (hcall).mono ?_
        rintro e w27 ⟨B1, b1, B2, b2, B3, b3, rfl, hp, hb⟩
        have hbc := hb
        have HP28 := Lib.hid ((HP26.out.below hbc).lt)
        have HA28 := Lib.hid ((HA26.out.below hbc).lt)
        have HB28 := Lib.hid (below_then HB26.out hbc (Nat.le_refl _))
        have KP28 := Lib.hid (KP26.out.after hbc)
        have HQP28 := Lib.hid (hp)
        clear hbc HP26 HA26 HB26 KP26 hb
        clear hcall
        have v6 : (p.C.length : Int) ≤ (b1 : Int) := by have := hp.l1; omega
        clear hp
        go_upto_region 4 with fail
        obtain ⟨n29, hv, hbb, hk0⟩ : ∃ v, v = (w27.alloc (.cells #[.slice B1 q.C.length b1, .slice B2 q.S.length b2, .slice B3 q.L.length b3] 27)) ∧ Below w27.heap.size w27 v ∧ Blk v (w27.heap.size) 27 #[.slice B1 q.C.length b1, .slice B2 q.S.length b2, .slice B3 q.L.length b3] :=
          ⟨_, rfl, (Below.refl _ _).alloc (Nat.le_refl _) _, Blk.at_new (by simp; try omega)⟩
        rw [← hv]
        clear hv
        have hbc := hbb
        have HP30 := Lib.hid ((HP28.out.below hbc).lt)
        have HA30 := Lib.hid ((HA28.out.below hbc).lt)
        have HB30 := Lib.hid (below_then HB28.out hbc (Nat.le_refl _))
        have KP30 := Lib.hid (KP28.out.after hbc)
        have HQP30 := Lib.hid ((HQP28.out.below hbc).lt)
        have KQ30 := Lib.hid (hk0)
        clear hbc HP28 HA28 HB28 KP28 HQP28 hbb hk0
        obtain ⟨tq, htq⟩ : ∃ t, t = w27.heap.size := ⟨_, rfl⟩
        rw [← htq] at KQ30 ⊢
        clear htq
        refine wp_region_tree (fun w' => Below w.heap.size w w' ∧ Blk w' w.heap.size 27 #[.slice C p.C.length cC, .slice S p.S.length cS, .slice L p.L.length cL] ∧ Blk w' tq 27 #[.slice B1 q.C.length b1, .slice B2 q.S.length b2, .slice B3 q.L.length b3]) (.float 0 (.float 1 (.float 2 (.float 3 (.float 4 (.float 5 (.float 6 (.float 7 (.float 8 (.float 9 (.float 10 (.float 11 (.float 12 (.float 13 (.float 14 (.float 15 (.float 16 (.float 17 (.float 18 (.float 19 (.float 20 (.float 21 (.float 22 (.float 23 (.float 24 (.float 25 (.float 26 (.float 27 (.float 28 (.float 29 (.float 30 (.float 31 (.float 32 (.float 33 (.float 34 (.float 35 (.float 36 (.float 37 (.float 38 (.float 39 (.float 40 (.float 41 (.float 42 (.one 43 (.float 44 (.float 45 .done)))))))))))))))))))))))))))))))))))))))))))))) (by kernel_rfl) (by kernel_rfl) (fun _ _ d _ _ h => by cases d <;> exact h) ⟨HB30.out.drew, KP30.out.drew, KQ30.out.drew⟩ ?_
        obtain ⟨d31, hdr, hbd⟩ : ∃ d, d = n29.drew ∧ Below n29.heap.size n29 d := ⟨_, rfl, (Below.refl _ _).drew⟩
        rw [← hdr]
        clear hdr
        have hbc := hbd
        have HP32 := Lib.hid ((HP30.out.below hbc).lt)
        have HA32 := Lib.hid ((HA30.out.below hbc).lt)
        have HB32 := Lib.hid (below_then HB30.out hbc (Nat.le_refl _))
        have KP32 := Lib.hid (KP30.out.after hbc)
        have HQP32 := Lib.hid ((HQP30.out.below hbc).lt)
        have KQ32 := Lib.hid (KQ30.out.after hbc)
        clear hbc HP30 HA30 HB30 KP30 HQP30 KQ30 hbd
        repeat (first
          | (refine wpTr_fskip (by simp only [List.getElem?_toArray, List.getElem?_cons_zero, List.getElem?_cons_succ]; rfl) (by rfl) ?_
             simp only [Act.put, List.setIfInBounds_toArray, List.set_cons_zero, List.set_cons_succ])
          | (refine wpTr_float (v := ?_) (by simp only [List.getElem?_toArray, List.getElem?_cons_zero, List.getElem?_cons_succ]; rfl) (by rfl) (fun w' hS => ?_) ?_
             rotate_left
             (obtain ⟨hSb, hSk, hSq⟩ := hS; obtain ⟨e0, e1, e2⟩ := hSk.cells3; obtain ⟨e3, e4, e5⟩ := hSq.cells3; have hls := hSk.lt; have hlq := hSq.lt; go_simp; first | done | rfl)
             simp only [Act.put, List.setIfInBounds_toArray, List.set_cons_zero, List.set_cons_succ]))
        refine wpTr_one ?_
        refine stepTr_K (by simp only [List.getElem?_toArray, List.getElem?_cons_zero, List.getElem?_cons_succ]; rfl) (by rfl) (fun K hK => ?_)
        go_simp
        refine (requal_q B1 C _ _ _ cC (q.C.take p.C.length) p.C _ HQP32.out.r1.init HP32.out.r1 (by simp; omega) rfl (by simp only [maxLen]; omega) (by simp only [maxLen]; omega) true (by rw [HTK.out]; simp)).mono ?_
        rintro e w33 ⟨rfl, hb⟩
        have hbc := hb
        have HP34 := Lib.hid ((HP32.out.below hbc).lt)
        have HA34 := Lib.hid ((HA32.out.below hbc).lt)
        have HB34 := Lib.hid (below_then HB32.out hbc (Nat.le_refl _))
        have KP34 := Lib.hid (KP32.out.after hbc)
        have HQP34 := Lib.hid ((HQP32.out.below hbc).lt)
        have KQ34 := Lib.hid (KQ32.out.after hbc)
        clear hbc HP32 HA32 HB32 KP32 HQP32 KQ32 hb
        refine hK.out _ _ ⟨HB34.out, KP34.out, KQ34.out⟩ ?_
        clear hK K
        try simp only [Act.put, List.setIfInBounds_toArray, List.set_cons_zero, List.set_cons_succ]
        repeat (first
          | (refine wpTr_fskip (by simp only [List.getElem?_toArray, List.getElem?_cons_zero, List.getElem?_cons_succ]; rfl) (by rfl) ?_
             simp only [Act.put, List.setIfInBounds_toArray, List.set_cons_zero, List.set_cons_succ])
          | (refine wpTr_float (v := ?_) (by simp only [List.getElem?_toArray, List.getElem?_cons_zero, List.getElem?_cons_succ]; rfl) (by rfl) (fun w' hS => ?_) ?_
             rotate_left
             (obtain ⟨hSb, hSk, hSq⟩ := hS; obtain ⟨e0, e1, e2⟩ := hSk.cells3; obtain ⟨e3, e4, e5⟩ := hSq.cells3; have hls := hSk.lt; have hlq := hSq.lt; go_simp; first | done | rfl)
             simp only [Act.put, List.setIfInBounds_toArray, List.set_cons_zero, List.set_cons_succ]))
        refine wpTr_done ?_
        clear v1 v2 v2n v3 v4 v5 v6
        go_wp2
        go_loopw [7] (fun s7 wr => ∃ k : Nat, k ≤ p.S.length ∧ s7 = .int .i64 (k : Int) ∧ Hid (Below w.heap.size w wr) ∧ Hid (PlAt wr wr.heap.size C cC S cS L cL p) ∧ Hid (Row wr wr.heap.size A (ints seq)) ∧ Hid (PlAt wr wr.heap.size B1 b1 B2 b2 B3 b3 q) ∧ Hid (Blk wr w.heap.size 27 #[.slice C p.C.length cC, .slice S p.S.length cS, .slice L p.L.length cL]) ∧ Hid (Blk wr tq 27 #[.slice B1 q.C.length b1, .slice B2 q.S.length b2, .slice B3 q.L.length b3])) (fun i _ => p.S.length - (intOf i).toNat)
        case atStart => exact ⟨0, by omega, rfl, HB34, HP34, HA34, HQP34, KP34, KQ34⟩
        case round =>
          clear HP34 HA34 HB34 KP34 HQP34 KQ34
          obtain ⟨k, hk, rfl, HB, HP, HA, HQP, KP, KQ⟩ := hrel
          by_cases h1 : k < p.S.length
          · have HE : Hid (get14 q (k : Int) = (seqAt p k, true)) := by show _ = _; rw [get_at HVQ.out (by omega), HOLD.out k h1]
            obtain ⟨eKP0, eKP1, eKP2⟩ := KP.out.cells3
            have lKP := KP.out.lt
            go_wp2_with fail
            clear eKP0 eKP1 eKP2 lKP
            refine (get_any C S L cC cS cL p _ _ HP.out ⟨by omega, by omega, by omega⟩ (seqAt p k) true (get_at HV.out h1)).mono ?_
            rintro e w35 ⟨D1, d1, rfl, x1, x2, hr, hb⟩
            have hbc := hb
            have HB36 := Lib.hid (below_then HB.out hbc (Nat.le_refl _))
            have HP36 := Lib.hid ((HP.out.below hbc).lt)
            have HA36 := Lib.hid ((HA.out.below hbc).lt)
            have HQP36 := Lib.hid ((HQP.out.below hbc).lt)
            have KP36 := Lib.hid (KP.out.after hbc)
            have KQ36 := Lib.hid (KQ.out.after hbc)
            have G136 := Lib.hid (hr)
            clear hbc HB HP HA HQP KP KQ hb
            clear hr
            obtain ⟨eKQ0, eKQ1, eKQ2⟩ := KQ36.out.cells3
            have lKQ := KQ36.out.lt
            go_wp2_with fail
            clear eKQ0 eKQ1 eKQ2 lKQ
            refine (get_any B1 B2 B3 b1 b2 b3 q _ _ HQP36.out ⟨by omega, by omega, by omega⟩ (seqAt p k) true HE.out).mono ?_
            rintro e w37 ⟨D2, d2, rfl, x3, x4, hr, hb⟩
            have hbc := hb
            have HB38 := Lib.hid (below_then HB36.out hbc (Nat.le_refl _))
            have HP38 := Lib.hid ((HP36.out.below hbc).lt)
            have HA38 := Lib.hid ((HA36.out.below hbc).lt)
            have HQP38 := Lib.hid ((HQP36.out.below hbc).lt)
            have KP38 := Lib.hid (KP36.out.after hbc)
            have KQ38 := Lib.hid (KQ36.out.after hbc)
            have G138 := Lib.hid ((G136.out.below hbc).lt)
            have G238 := Lib.hid (hr)
            clear hbc HB36 HP36 HA36 HQP36 KP36 KQ36 G136 hb
            clear hr
            go_wp2_with fail
            refine (requal_q D1 D2 _ _ d1 d2 (seqAt p k) (seqAt p k) _ G138.out G238.out rfl rfl (Nat.le_trans x1 x2) (Nat.le_trans x1 x2) true (by simp)).mono ?_
            rintro e w39 ⟨rfl, hb⟩
            have hbc := hb
            have HB40 := Lib.hid (below_then HB38.out hbc (Nat.le_refl _))
            have HP40 := Lib.hid ((HP38.out.below hbc).lt)
            have HA40 := Lib.hid ((HA38.out.below hbc).lt)
            have HQP40 := Lib.hid ((HQP38.out.below hbc).lt)
            have KP40 := Lib.hid (KP38.out.after hbc)
            have KQ40 := Lib.hid (KQ38.out.after hbc)
            have G140 := Lib.hid ((G138.out.below hbc).lt)
            have G240 := Lib.hid ((G238.out.below hbc).lt)
            clear hbc HB38 HP38 HA38 HQP38 KP38 KQ38 G138 G238 hb
            go_wp2
            go_roundw
            case rel => exact ⟨k + 1, by omega, by go_num, HB40, HP40, HA40, HQP40, KP40, KQ40⟩
            case measure => simp [intOf]; omega
          · have HE : Hid (get14 q (p.S.length : Int) = (seq, true)) := by show _ = _; rw [get_at HVQ.out (by omega), HNEW.out]
            obtain ⟨eKQ0, eKQ1, eKQ2⟩ := KQ.out.cells3
            have lKQ := KQ.out.lt
            go_wp2_with fail
            clear eKQ0 eKQ1 eKQ2 lKQ
            refine (get_any B1 B2 B3 b1 b2 b3 q _ _ HQP.out ⟨by omega, by omega, by omega⟩ seq true HE.out).mono ?_
            rintro e w41 ⟨D1, d1, rfl, x1, x2, hr, hb⟩
            have hbc := hb
            have HB42 := Lib.hid (below_then HB.out hbc (Nat.le_refl _))
            have HP42 := Lib.hid ((HP.out.below hbc).lt)
            have HA42 := Lib.hid ((HA.out.below hbc).lt)
            have HQP42 := Lib.hid ((HQP.out.below hbc).lt)
            have KP42 := Lib.hid (KP.out.after hbc)
            have KQ42 := Lib.hid (KQ.out.after hbc)
            have G142 := Lib.hid (hr)
            clear hbc HB HP HA HQP KP KQ hb
            clear hr
            go_wp2_with fail
            refine (requal_q D1 A _ _ d1 c seq seq _ G142.out HA42.out rfl rfl (Nat.le_trans x1 x2) (Nat.le_trans x1 x2) true (by simp)).mono ?_
            rintro e w43 ⟨rfl, hb⟩
            have hbc := hb
            have HB44 := Lib.hid (below_then HB42.out hbc (Nat.le_refl _))
            have HP44 := Lib.hid ((HP42.out.below hbc).lt)
            have HA44 := Lib.hid ((HA42.out.below hbc).lt)
            have HQP44 := Lib.hid ((HQP42.out.below hbc).lt)
            have KP44 := Lib.hid (KP42.out.after hbc)
            have KQ44 := Lib.hid (KQ42.out.after hbc)
            have G144 := Lib.hid ((G142.out.below hbc).lt)
            clear hbc HB42 HP42 HA42 HQP42 KP42 KQ42 G142 hb
            obtain ⟨eKQ0, eKQ1, eKQ2⟩ := KQ44.out.cells3
            have lKQ := KQ44.out.lt
            go_wp2_with fail
            clear eKQ0 eKQ1 eKQ2 lKQ
            refine (vld_calls B1 B2 B3 b1 b2 b3 q _ HQP44.out ⟨by omega, by omega, by omega⟩ _ HVQ.out).mono ?_
            rintro e w45 ⟨rfl, hb⟩
            have hbc := hb
            have HB46 := Lib.hid (below_then HB44.out hbc (Nat.le_refl _))
            have HP46 := Lib.hid ((HP44.out.below hbc).lt)
            have HA46 := Lib.hid ((HA44.out.below hbc).lt)
            have HQP46 := Lib.hid ((HQP44.out.below hbc).lt)
            have KP46 := Lib.hid (KP44.out.after hbc)
            have KQ46 := Lib.hid (KQ44.out.after hbc)
            have G146 := Lib.hid ((G144.out.below hbc).lt)
            clear hbc HB44 HP44 HA44 HQP44 KP44 KQ44 G144 hb
            go_wp2_with fail
            refine (alive_any _).mono ?_
            rintro e w47 ⟨rfl, hb⟩
            have hbc := hb
            have HB48 := Lib.hid (below_then HB46.out hbc (Nat.le_refl _))
            have HP48 := Lib.hid ((HP46.out.below hbc).lt)
            have HA48 := Lib.hid ((HA46.out.below hbc).lt)
            have HQP48 := Lib.hid ((HQP46.out.below hbc).lt)
            have KP48 := Lib.hid (KP46.out.after hbc)
            have KQ48 := Lib.hid (KQ46.out.after hbc)
            have G148 := Lib.hid ((G146.out.below hbc).lt)
            clear hbc HB46 HP46 HA46 HQP46 KP46 KQ46 G146 hb
            go_wp2
            go_ret
            exact ⟨rfl, HB48.out⟩
theorem own : ownKnob Try.prog.godebug = none := by kernel_rfl
theorem laidOut : laidOutB Try.prog = true := by kernel_rfl
set_option maxRecDepth 100000 in
theorem lifted (os : Os) (started : os.Started) (H : Type) (enc : TypeId × Value → H) :
    ReturnsInHanded {} Try.checked os 10 .any (Rows.seqpoolKeepsSpec.pre6 enc Try.prog Try.f10 Rows.seqpoolKeepsRow.domain false) (Rows.seqpoolKeepsSpec.post enc Try.prog Try.f10 false true false false) := by
  refine returnsInHanded_of_change (C := Try.checked) own started (by kernel_rfl) Try.func10
    (ChangeSpec.witness6 (enc := enc) (C := Try.checked) false ⟨#[], #[.agg #[.slice none 0 0, .slice none 0 0, .slice none 0 0], .slice none 0 0], []⟩ 8 (by kernel_rfl) (by kernel_rfl) (by kernel_rfl) (by kernel_rfl)) ?_
  intro W base args ds gs before hval0 hW hcnd _
  have hval : ∀ (j : Nat) t v, Try.f10.params[j]? = some t → args[j]? = some v → Value.okWide Try.prog W .any base t v := hval0
  have hW' := hW
  obtain ⟨p, q, hA0, hV, rfl, hfz, hnd⟩ := hW
  have hA : DataW.TrodAll enc Try.prog W 0 (fun _ => true) true Try.f10.params.toList args.toList ds p := hA0
  rw [Try.params10] at hA hval
  obtain ⟨v0, v1, d0, d1, p0, p1, rfl, rfl, rfl, h0, h1⟩ := trodAll_two hA
  obtain ⟨rfl, rfl⟩ := trodVars_none hV
  obtain ⟨a00, a01, a02, y00, y01, y02, n0, rfl, rfl, rfl, g00, g01, g02⟩ := open_agg3 Try.underlying27 (by kernel_rfl) (by kernel_rfl) (hval 0 27 v0 rfl rfl) h0
  obtain ⟨A00, c00, x00, rfl, hc00, hm00, hR00, -⟩ := open_row Try.underlying25 Try.underlying3 (by kernel_rfl) g00
  obtain ⟨A01, c01, x01, rfl, hc01, hm01, hR01, -⟩ := open_row Try.underlying25 Try.underlying3 (by kernel_rfl) g01
  obtain ⟨A02, c02, x02, rfl, hc02, hm02, hR02, -⟩ := open_row Try.underlying25 Try.underlying3 (by kernel_rfl) g02
  obtain ⟨ad1, le1, ca1, rfl⟩ := okWide_slice Try.underlying25 (hval 1 25 v1 rfl rfl)
  obtain ⟨fu1, hf1⟩ := h1
  obtain ⟨A1, c1, xs1, hv1, hc1, hm1, hR1, -⟩ := open_row (v := .slice ad1 le1 ca1) Try.underlying25 Try.underlying3 (by kernel_rfl) hf1
  injection hv1 with ea1 eb1 ec1
  subst ea1 eb1 ec1
  refine (walk W A00 c00 A01 c01 A02 c02 ⟨x00, x01, x02⟩ ⟨hc00, hm00, hR00, hc01, hm01, hR01, hc02, hm02, hR02⟩ ad1 ca1 xs1 hc1 hm1 hR1).mono fun e W' ⟨he, hb⟩ => ⟨_, he, ?_⟩
  exact law_post laidOut (by rw [Try.params10]; exact of_decide_eq_true (by kernel_rfl)) rfl rfl Try.underlying4 hW' rfl hb
theorem holds : Rows.SeqpoolKeepsSaid :=
  OpenClaim.holds_of_wide 10 Try.f10 rfl rfl rfl rfl rfl rfl rfl ⟨rfl, rfl, rfl, rfl, rfl⟩ rfl rfl rfl rfl rfl (by kernel_rfl) Try.func10 (by kernel_rfl)
    (of_decide_eq_true (by kernel_rfl)) (by unfold Func.isWrapper; first | (rw [if_pos (by decide +kernel)]; kernel_rfl) | (rw [if_neg (by decide +kernel)]; exact ⟨rfl, rfl⟩))
    (fun os started H enc _ => lifted os started H enc)
end Go.Proofs.Yteobffcnfigilaa.LKeeps
namespace Go.Proofs.Yteobffcnfigilaa
theorem seqpoolKeeps_holds : Rows.SeqpoolKeepsSaid := LKeeps.holds
end Go.Proofs.Yteobffcnfigilaa
