/-
  ref29.Decide, ref29.Actions.
-/
import Derived.Test.YtkpblieanejmeaaBw8
namespace Go.UtYtkpblieanejmeaa
theorem comm_hit {a b : List Int} {i : Nat} {y : Int} (h : ∀ z ∈ a.take i, z ∉ b) (hi : a[i]? = some y) (hy : y ∈ b) : comm a b = some y := by
  obtain ⟨h1, h2⟩ := List.getElem?_eq_some_iff.1 hi
  unfold comm
  rw [← List.take_append_drop i a, List.drop_eq_getElem_cons h1, h2, List.find?_append, List.find?_eq_none.2 (fun z hz => by simpa using h z hz)]
  simp [hy]
theorem comm_miss {a b : List Int} (h : ∀ z ∈ a, z ∉ b) : comm a b = none := List.find?_eq_none.2 (fun z hz => by simpa using h z hz)
end Go.UtYtkpblieanejmeaa
namespace Go.Proofs.Ytkpblieanejmeaa
open Go.RowKit Go.UtYtkpblieanejmeaa
set_option maxRecDepth 100000 in
set_option maxHeartbeats 4000000 in
theorem rdecide_any (x : TA) (t : BT) (A : Option Addr) (c : Nat) (l : List Int) (i : Nat) (w : World) (h : TabAt w w.heap.size x t) (hsm : t.cls.length ≤ 1000 ∧ t.act.length ≤ 1000) (hl : Row w w.heap.size A (ints l)) (hll : l.length ≤ 100000) (hP : fitsL t l ∧ validT t) (hi : i ≤ l.length) :
    Calls Try.prog 84 #[x.val t, .slice A l.length c, .int .i64 (i : Int)] w fun e w' => ∃ z : Int, e = .returned (.tuple #[.int .i64 (actS t (runA t.ln 0 (l.take i)) (runR t.rn (l.drop i))), .int .i64 z]) ∧ Below w.heap.size w w' := by
  have CU := Lib.hid (fun (u : World) (hu : Below w.heap.size w u) => usable_any x t A c l u (h.below hu).lt hsm (hl.below hu).lt hll true ⟨fun _ => hP, fun _ => rfl⟩)
  have CL := Lib.hid (fun (u : World) (hu : Below w.heap.size w u) => rleft_any x t A c l u (h.below hu).lt hsm (hl.below hu).lt hll)
  have CR := Lib.hid (fun (u : World) (hu : Below w.heap.size w u) => rright_any x t A c l u (h.below hu).lt hsm (hl.below hu).lt hll)
  have hx1 : lefL t l = lefts t.ln l := by unfold lefL; rw [if_pos hP]
  have hx2 : rigL t l = rights t.rn l := by unfold rigL; rw [if_pos hP]
  rw [hx1] at CL
  rw [hx2] at CR
  unfold TA.val at CL CR CU ⊢
  unfold RetI at CL CR
  rw [lefts_len] at CL
  rw [rights_len] at CR
  have hsl := runA_fit hP.2.2.2.2.1 (l.take i) 0 ⟨by omega, by have := hP.2.2.2.2.1.1.1; omega⟩ (fun c hc => hP.1 c (List.mem_of_mem_take hc))
  have hsr := runR_fit hP.2.2.2.2.2 (l.drop i) (fun c hc => hP.1 c (List.mem_of_mem_drop hc))
  obtain ⟨s, hs⟩ : ∃ s, runA t.ln 0 (l.take i) = s := ⟨_, rfl⟩
  obtain ⟨u, hu⟩ : ∃ s, runR t.rn (l.drop i) = s := ⟨_, rfl⟩
  rw [hs] at hsl ⊢
  rw [hu] at hsr ⊢
  obtain ⟨sn, rfl⟩ : ∃ sn : Nat, s = (sn : Int) := ⟨s.toNat, by omega⟩
  obtain ⟨un, rfl⟩ : ∃ un : Nat, u = (un : Int) := ⟨u.toNat, by omega⟩
  have HGL : Hid ((lefts t.ln l)[i]? = some (sn : Int)) := by show _ = _; rw [lefts_get hi, hs]
  have HGR : Hid ((rights t.rn l)[i]? = some (un : Int)) := by show _ = _; rw [rights_get hi, hu]
  have HT := Lib.hid h
  have HP := Lib.hid hP
  have HL := Lib.hid hl
  obtain ⟨w1, hw1, HB1, HK1⟩ := boxT w 31 x t
  have hbs1 := HB1.out.size
  have hll2 : t.lm.length = t.ln.length := hP.2.2.2.2.1.2.1
  have hrl2 : t.rm.length = t.rn.length := hP.2.2.2.2.2.2.1
  obtain ⟨bl, ol, Al, cl, p, hAl, hbl, hxl, ccl, l1, l2, hrp⟩ := (h.2.2.1.2.1.below HB1.out).at_ (k := sn) (by omega)
  obtain ⟨br, or, Ar, cr, q, hAr, hbr, hxr, ccr, r1, r2, hrq⟩ := (h.2.2.2.2.1.below HB1.out).at_ (k := un) (by omega)
  have HPR := Lib.hid hrp
  have HQR := Lib.hid hrq
  have HAP := Lib.hid (hP.2.2.2.2.1.2.2.2 p (List.mem_of_getElem? hxl.out))
  obtain ⟨nl, hnl⟩ : ∃ n, t.lm.length = n := ⟨_, rfl⟩
  obtain ⟨nr, hnr⟩ : ∃ n, t.rm.length = n := ⟨_, rfl⟩
  have i1 : sn < nl := by omega
  have i2 : un < nr := by omega
  obtain ⟨np, hnp⟩ : ∃ n, p.length = n := ⟨_, rfl⟩
  obtain ⟨nq, hnq⟩ : ∃ n, q.length = n := ⟨_, rfl⟩
  rw [hnp] at ccl l1
  rw [hnq] at ccr r1
  unfold maxLen at l2 r2
  have HNP := Lib.hid hnp
  have HNQ := Lib.hid hnq
  have hbl2 : bl < w1.heap.size := by omega
  have hbr2 : br < w1.heap.size := by omega
  have HX3 := Lib.hid hAl
  have HX5 := Lib.hid hAr
  have HNL := Lib.hid hnl
  have HNR := Lib.hid hnr
  obtain ⟨n, hn⟩ : ∃ n, l.length = n := ⟨_, rfl⟩
  have HN := Lib.hid hn
  rw [hn] at hll CL CR CU hi ⊢
  obtain ⟨N, hN⟩ : ∃ N, n + 1 = N := ⟨_, rfl⟩
  rw [hN] at CL CR
  have hiN : i < N := by omega
  have d1 : decide (n < i) = false := decide_eq_false (by omega)
  have d2 : decide ((n : Int) < (i : Int)) = false := decide_eq_false (by omega)
  have d3 : decide ((i : Int) < 0) = false := decide_eq_false (by omega)
  clear h hl hP hx1 hx2 hs hu hsl hsr hll2 hrl2 hrp hrq hAl hAr hnl hnr hnp hnq hn hN
  obtain ⟨i0, hi0, hz0, hz1, hz2⟩ := info_parts in_info31
  go_enter Try.func84, Try.ntmps84
  go_upto_region 1 with fail
  rw [← hw1]
  clear hw1
  obtain ⟨q0, q1, q2, q3, q4, q5, ql⟩ := tab6 HK1.out
  go_wp2_with fail
  refine (CU.out w1 HB1.out).mono ?_
  rintro e w2 ⟨rfl, hb2⟩
  have HBL2 := Lib.hid hb2
  have HB2 := Lib.hid (HB1.out.trans (hb2.mono hbs1))
  have HK2 := Lib.hid (HK1.out.after hb2)
  have hbs2 := HB2.out.size
  have ccl2 := (hb2.cell (p := ⟨bl, ol + sn, none⟩) hbl2).trans ccl
  have ccr2 := (hb2.cell (p := ⟨br, or + un, none⟩) hbr2).trans ccr
  clear hb2 q0 q1 q2 q3 q4 q5 ql ccl ccr
  have hlt12 := HBL2.out.size
  go_upto_region 3 with fail
  refine wp_region_tree (fun w' => Blk w' w.heap.size 31 (x.cs t) ∧ w'.cell? ⟨bl, ol + sn, none⟩ = some (.slice Al np cl) ∧ w'.cell? ⟨br, or + un, none⟩ = some (.slice Ar nq cr)) (.float 0 (.float 1 (.float 2 (.float 3 (.float 4 (.float 6 (.float 11 (.float 12 (.float 13 (.float 14 (.float 15 (.float 17 (.one 5 (.more (.float 7 (.float 8 (.float 9 (.float 10 (.one 16 (.more (.float 18 (.float 19 (.float 20 (.float 21 (.float 22 (.float 23 .done)))))))))))))))))))))))))) (by kernel_rfl) (by kernel_rfl) (fun _ _ d _ _ h => by cases d <;> exact h) ⟨HK2.out.drew, ccl2, ccr2⟩ ?_
  repeat (first
    | (refine wpTr_fskip (by simp only [List.getElem?_toArray, List.getElem?_cons_zero, List.getElem?_cons_succ]; rfl) (by rfl) ?_
       simp only [Act.put, List.setIfInBounds_toArray, List.set_cons_zero, List.set_cons_succ])
    | (refine wpTr_float (v := ?_) (by simp only [List.getElem?_toArray, List.getElem?_cons_zero, List.getElem?_cons_succ]; rfl) (by rfl) (fun w' hS => ?_) ?_
       rotate_left
       ((obtain ⟨hSK, e1', e2'⟩ := hS; obtain ⟨s0', s1', s2', s3', s4', s5', sl'⟩ := tab6 hSK; try simp only [HX3.out, HX5.out, HNL.out, HNR.out]); go_simp; first | done | rfl)
       simp only [Act.put, List.setIfInBounds_toArray, List.set_cons_zero, List.set_cons_succ]))
  refine wpTr_one ?_
  refine stepTr_K (by simp only [List.getElem?_toArray, List.getElem?_cons_zero, List.getElem?_cons_succ]; rfl) (by rfl) (fun K hK => ?_)
  go_simp
  refine (CL.out w2.drew HB2.out.drew).mono ?_
  rintro e w3 ⟨A3, c3, rfl, g1, g2, hr3, hb3⟩
  have HBL3 : Hid (Below w2.heap.size w2 w3) := (Below.refl _ _).drew.trans hb3
  have HB3 := Lib.hid (HB2.out.trans (HBL3.out.mono hbs2))
  have HK3 := Lib.hid (HK2.out.after HBL3.out)
  have hbs3 := HB3.out.size
  have ccl3 := (HBL3.out.cell (p := ⟨bl, ol + sn, none⟩) (by show bl < _; omega)).trans ccl2
  have ccr3 := (HBL3.out.cell (p := ⟨br, or + un, none⟩) (by show br < _; omega)).trans ccr2
  have hlt23 := HBL3.out.size
  obtain ⟨b3, o3, x3, rfl, hb3', hx3, cc3⟩ := hr3.at_int (k := i) ((List.getElem?_eq_some_iff.1 HGL.out).1)
  obtain rfl : x3 = (sn : Int) := by
    have := hx3.out
    rw [HGL.out] at this
    injection this with this
    exact this.symm
  refine hK.out _ _ ⟨HK3.out, ccl3, ccr3⟩ ?_
  clear hK K hb3 hr3 g1 g2
  refine wpTr_more (fun w' => (Blk w' w.heap.size 31 (x.cs t) ∧ w'.cell? ⟨bl, ol + sn, none⟩ = some (.slice Al np cl) ∧ w'.cell? ⟨br, or + un, none⟩ = some (.slice Ar nq cr)) ∧ w'.cell? ⟨b3, o3 + i, none⟩ = some (.int .i64 (sn : Int))) (fun _ h => h.1) ⟨⟨HK3.out, ccl3, ccr3⟩, cc3⟩ ?_
  try simp only [Act.put, List.setIfInBounds_toArray, List.set_cons_zero, List.set_cons_succ]
  repeat (first
    | (refine wpTr_fskip (by simp only [List.getElem?_toArray, List.getElem?_cons_zero, List.getElem?_cons_succ]; rfl) (by rfl) ?_
       simp only [Act.put, List.setIfInBounds_toArray, List.set_cons_zero, List.set_cons_succ])
    | (refine wpTr_float (v := ?_) (by simp only [List.getElem?_toArray, List.getElem?_cons_zero, List.getElem?_cons_succ]; rfl) (by rfl) (fun w' hS => ?_) ?_
       rotate_left
       ((obtain ⟨⟨hSK, e1', e2'⟩, e3'⟩ := hS; obtain ⟨s0', s1', s2', s3', s4', s5', sl'⟩ := tab6 hSK; try simp only [HX3.out, HX5.out, HNL.out, HNR.out]); go_simp; first | done | rfl)
       simp only [Act.put, List.setIfInBounds_toArray, List.set_cons_zero, List.set_cons_succ]))
  refine wpTr_one ?_
  refine stepTr_K (by simp only [List.getElem?_toArray, List.getElem?_cons_zero, List.getElem?_cons_succ]; rfl) (by rfl) (fun K hK => ?_)
  go_simp
  refine (CR.out w3 HB3.out).mono ?_
  rintro e w4 ⟨A4, c4, rfl, g1, g2, hr4, hb4⟩
  have HB4 := Lib.hid (HB3.out.trans (hb4.mono hbs3))
  have HK4 := Lib.hid (HK3.out.after hb4)
  have hbs4 := HB4.out.size
  have ccl4 := (hb4.cell (p := ⟨bl, ol + sn, none⟩) (by show bl < _; omega)).trans ccl3
  have ccr4 := (hb4.cell (p := ⟨br, or + un, none⟩) (by show br < _; omega)).trans ccr3
  have cc34 := (hb4.cell (p := ⟨b3, o3 + i, none⟩) hb3').trans cc3
  have hlt34 := hb4.size
  have HC14 : Hid (Below w.heap.size w1 w4) := ((HBL2.out.trans ((HBL3.out.trans (hb4.mono hlt23)).mono hlt12)).mono hbs1)
  obtain ⟨b4, o4, x4, rfl, hb4', hx4, cc4⟩ := hr4.at_int (k := i) ((List.getElem?_eq_some_iff.1 HGR.out).1)
  obtain rfl : x4 = (un : Int) := by
    have := hx4.out
    rw [HGR.out] at this
    injection this with this
    exact this.symm
  refine hK.out _ _ ⟨⟨HK4.out, ccl4, ccr4⟩, cc34⟩ ?_
  clear hK K hb4 hr4 g1 g2
  refine wpTr_more (fun w' => ((Blk w' w.heap.size 31 (x.cs t) ∧ w'.cell? ⟨bl, ol + sn, none⟩ = some (.slice Al np cl) ∧ w'.cell? ⟨br, or + un, none⟩ = some (.slice Ar nq cr)) ∧ w'.cell? ⟨b3, o3 + i, none⟩ = some (.int .i64 (sn : Int))) ∧ w'.cell? ⟨b4, o4 + i, none⟩ = some (.int .i64 (un : Int))) (fun _ h => h.1) ⟨⟨⟨HK4.out, ccl4, ccr4⟩, cc34⟩, cc4⟩ ?_
  try simp only [Act.put, List.setIfInBounds_toArray, List.set_cons_zero, List.set_cons_succ]
  repeat (first
    | (refine wpTr_fskip (by simp only [List.getElem?_toArray, List.getElem?_cons_zero, List.getElem?_cons_succ]; rfl) (by rfl) ?_
       simp only [Act.put, List.setIfInBounds_toArray, List.set_cons_zero, List.set_cons_succ])
    | (refine wpTr_float (v := ?_) (by simp only [List.getElem?_toArray, List.getElem?_cons_zero, List.getElem?_cons_succ]; rfl) (by rfl) (fun w' hS => ?_) ?_
       rotate_left
       ((obtain ⟨⟨⟨hSK, e1', e2'⟩, e3'⟩, e4'⟩ := hS; obtain ⟨s0', s1', s2', s3', s4', s5', sl'⟩ := tab6 hSK; try simp only [HX3.out, HX5.out, HNL.out, HNR.out]); go_simp; first | done | rfl)
       simp only [Act.put, List.setIfInBounds_toArray, List.set_cons_zero, List.set_cons_succ]))
  refine wpTr_done ?_
  have HP4 := Lib.hid (HPR.out.below HC14.out)
  have HQ4 := Lib.hid (HQR.out.below HC14.out)
  obtain ⟨t0, t1, t2, t3, t4, t5, tl⟩ := tab6 HK4.out
  go_wp2
  go_loopw [10] (fun v wr => ∃ k : Nat, k ≤ np ∧ v = .int .i64 (k : Int) ∧ Hid (∀ z ∈ p.take k, z ∉ q) ∧ Hid (∃ m, wr = w4.drewN m)) (fun v _ => np - (intOf v).toNat)
  case atStart => exact ⟨0, by omega, rfl, fun z hz => by simp at hz, 0, rfl⟩
  case round =>
    obtain ⟨k, hk, rfl, HK', HZ⟩ := hrel
    obtain ⟨m, hm⟩ := HZ.out
    subst hm
    by_cases hkn : k < np
    · obtain ⟨bp, op, y, rfl, hbp, hxp, ccp⟩ := HP4.out.at_int (k := k) (by rw [HNP.out]; exact hkn)
      have hbp4 : bp < w4.heap.size := by omega
      go_wp2
      go_loopw [11] (fun v wr => ∃ j : Nat, j ≤ nq ∧ v = .int .i64 (j : Int) ∧ Hid (∀ z ∈ q.take j, z ≠ y) ∧ Hid (∃ m, wr = w4.drewN m)) (fun v _ => nq - (intOf v).toNat)
      case atStart => exact ⟨0, by omega, rfl, fun z hz => by simp at hz, m, rfl⟩
      case round =>
        obtain ⟨j, hj, rfl, HJ', HZ2⟩ := hrel
        obtain ⟨m2, hm2⟩ := HZ2.out
        subst hm2
        by_cases hjn : j < nq
        · obtain ⟨bq, oq, z, rfl, hbq, hxq, ccq⟩ := HQ4.out.at_int (k := j) (by rw [HNQ.out]; exact hjn)
          have hbq4 : bq < w4.heap.size := by omega
          by_cases hyz : y = z
          · subst hyz
            have HCM := Lib.hid (comm_hit HK'.out hxp.out (List.mem_of_getElem? hxq.out))
            have hy0 := asc_ge HAP.out y (List.mem_of_getElem? hxp.out)
            have hy1 := (asc_mem HAP.out k y hxp.out).2
            obtain ⟨yn, rfl⟩ : ∃ yn : Nat, y = (yn : Int) := ⟨y.toNat, by omega⟩
            have HF := Lib.hid (actS_some hxl.out hxr.out HCM.out)
            obtain ⟨ba, oa, v, hAa, hba, hxa, cca⟩ := (HT.out.2.1.1.below HB4.out).at_int (k := yn) (by omega)
            have hba4 : ba < w4.heap.size := by omega
            have HY : Hid (t.act.getD yn 0 = v) := by
              show _ = _
              rw [List.getD_eq_getElem?_getD, hxa.out]
              rfl
            obtain ⟨nac, hnac⟩ : ∃ n, t.act.length = n := ⟨_, rfl⟩
            rw [hAa, hnac] at t1
            rw [hnac] at hy1
            have hyn : yn < nac := by omega
            clear hAa hnac hy1 hy0
            go_wp2
            go_quiet (fail)
            go_wp2
            go_quiet (fail)
            go_wp2
            go_ret2
            refine ⟨(yn : Int), ?_, below_drewN (below_drewN (below_drewN HB4.out _) _) _⟩
            rw [HF.out, Int.toNat_natCast, HY.out]
            rfl
          · have HJ2 := Lib.hid (all_snoc (P := fun z => z ≠ y) HJ'.out hxq.out (fun e => hyz e.symm))
            have dd : (y == z) = false := by simpa using hyz
            go_wp2
            go_quiet (fail)
            go_wp2
            go_roundw
            case rel => exact ⟨j + 1, by omega, by go_num, HJ2, _, rfl⟩
            case measure => simp [intOf]; omega
        · have hnot : y ∉ q := fun hm => all_take HJ'.out (by rw [HNQ.out]; omega) y hm rfl
          have HK2' := Lib.hid (all_snoc (P := fun z => z ∉ q) HK'.out hxp.out hnot)
          go_wp2
          go_roundw
          case rel => exact ⟨k + 1, by omega, by go_num, HK2', _, rfl⟩
          case measure => simp [intOf]; omega
    · have HF := Lib.hid (actS_none hxl.out hxr.out (comm_miss (all_take HK'.out (by rw [HNP.out]; omega))))
      go_wp2
      go_ret2
      exact ⟨-1, by rw [HF.out]; rfl, below_drewN HB4.out _⟩
set_option maxRecDepth 100000 in
set_option maxHeartbeats 4000000 in
theorem ractions_any (x : TA) (t : BT) (A : Option Addr) (c : Nat) (l : List Int) (w : World) (h : TabAt w w.heap.size x t) (hsm : t.cls.length ≤ 1000 ∧ t.act.length ≤ 1000) (hl : Row w w.heap.size A (ints l)) (hll : l.length ≤ 100000) :
    Calls Try.prog 74 #[x.val t, .slice A l.length c] w (RetI w (actL t l)) := by
  have CU := Lib.hid (fun (u : World) (hu : Below w.heap.size w u) (v' : Bool) (hv' : v' = true ↔ fitsL t l ∧ validT t) => usable_any x t A c l u (h.below hu).lt hsm (hl.below hu).lt hll v' hv')
  have CD := Lib.hid (fun (u : World) (hu : Below w.heap.size w u) (hP : fitsL t l ∧ validT t) (i : Nat) (hi : i ≤ l.length) => rdecide_any x t A c l i u (h.below hu).lt hsm (hl.below hu).lt hll hP hi)
  unfold TA.val at CU CD ⊢
  have HT := Lib.hid h
  have HL := Lib.hid hl
  obtain ⟨w1, hw1, HB1, HK1⟩ := boxT w 31 x t
  obtain ⟨q0, q1, q2, q3, q4, q5, ql⟩ := tab6 HK1.out
  obtain ⟨n, hn⟩ : ∃ n, l.length = n := ⟨_, rfl⟩
  have HN := Lib.hid hn
  rw [hn] at hll CU CD ⊢
  clear h hl hn
  have hbs1 := HB1.out.size
  obtain ⟨i0, hi0, hz0, hz1, hz2⟩ := info_parts in_info31
  by_cases hP : fitsL t l ∧ validT t
  case neg =>
    have HX : Hid (actL t l = []) := by
      show _ = _
      unfold actL
      rw [if_neg hP]
    go_enter Try.func74, Try.ntmps74
    go_upto_region 1 with fail
    rw [← hw1]
    clear hw1
    go_wp2_with fail
    refine (CU.out w1 HB1.out false ⟨fun h => (by cases h), fun h => absurd h hP⟩).mono ?_
    rintro e w2 ⟨rfl, hb2⟩
    have HB2 := Lib.hid (HB1.out.trans (hb2.mono HB1.out.size))
    clear hb2
    go_wp2
    go_ret
    rw [HX.out]
    exact ⟨none, 0, rfl, by simp, by simp [maxLen], Row.nil, HB2.out⟩
  case pos =>
    have HX : Hid (actL t l = actsL t l) := by
      show _ = _
      unfold actL
      rw [if_pos hP]
    have HP := Lib.hid hP
    clear hP
    go_enter Try.func74, Try.ntmps74
    go_upto_region 1 with fail
    rw [← hw1]
    clear hw1
    go_wp2_with fail
    refine (CU.out w1 HB1.out true ⟨fun _ => HP.out, fun _ => rfl⟩).mono ?_
    rintro e w2 ⟨rfl, hb2⟩
    have HB2 := Lib.hid (HB1.out.trans (hb2.mono HB1.out.size))
    have HK2 := Lib.hid (HK1.out.after hb2)
    have hbs2 := HB2.out.size
    clear hb2 q0 q1 q2 q3 q4 q5 ql
    go_wp2
    go_loopw [5, 6] (fun vo i wr => ∃ (k no c0 : Nat) (A0 : Option Addr) (out : List Int), k ≤ n + 1 ∧ i = .int .i64 (k : Int) ∧ vo = .slice A0 no c0 ∧ no ≤ k ∧ Hid (out = (actsL t l).take k) ∧ Hid (wr.ownsRow w2.heap.size 3 1 (.slice A0 no c0) no (ints out)) ∧ Hid (Below w2.heap.size w2 wr)) (fun _ i _ => n + 1 - (intOf i).toNat)
    case atStart => exact ⟨0, 0, 0, none, [], by omega, rfl, rfl, by omega, by show _ = _; simp, own_nil _, Below.refl _ _⟩
    case round =>
      obtain ⟨k, no, c0, A0, out, hk, rfl, rfl, hno, HOU, HO, HB⟩ := hrel
      have hbr := HB.out.size
      have HBw := Lib.hid (HB2.out.trans (HB.out.mono hbs2))
      have HKr := Lib.hid (HK2.out.after HB.out)
      obtain ⟨q0, q1, q2, q3, q4, q5, ql⟩ := tab6 HKr.out
      by_cases hkn : k ≤ n
      · obtain ⟨av, hav⟩ : ∃ av, actS t (runA t.ln 0 (l.take k)) (runR t.rn (l.drop k)) = av := ⟨_, rfl⟩
        have CDD := fun (z : World) (hz : Below w.heap.size w z) => CD.out z hz HP.out k hkn
        rw [hav] at CDD
        replace CDD := Lib.hid CDD
        have HOU' : Hid (out ++ [av] = (actsL t l).take (k + 1)) := by
          show _ = _
          obtain ⟨h1, h2⟩ := List.getElem?_eq_some_iff.1 (acts_get (t := t) (l := l) (i := k) (by rw [HN.out]; exact hkn))
          rw [List.take_succ_eq_append_getElem h1, h2, HOU.out, hav]
        clear hav
        go_wp2_with fail
        refine (CDD.out wr HBw.out).mono ?_
        rintro e w4 ⟨z, rfl, hb4⟩
        have HO4 := Lib.hid (ow_below HO.out hb4)
        have HB4 : Hid (Below w2.heap.size w2 w4) := HB.out.trans (hb4.mono hbr)
        have hbs4 := HB4.out.size
        clear hb4
        go_wp2_with (first
          | (at_builtin
             refine wpList_append_row _ rfl (.tmp 26) (.tmp 28) _ rfl w2.heap.size 3 i0 _ 1 8 Try.underlying26 hi0 hz0 hz1 hz2 rfl (by omega) (.slice A0 no c0) no (ints out) rfl (ow_alloc HO4.out _) _ _ 1 1 [Value.int .i64 av] rfl rfl (row_lit w4 _ _) (ints_one1 _) (by simp only [maxLen]; omega) (by omega) (by simp; omega) ?_
             intro q5 w5 o5 g5 t5
             obtain ⟨A5, c5, rfl⟩ := ow_slice (m := no + 1) o5 rfl
             rw [← ints_snoc] at o5
             have HB5 : Hid (Below w2.heap.size w2 w5) := (HB4.out.alloc hbs4 _).grown g5 (by simp; omega) (fun g hg => own_base HO4.out g hg)
             have HO5 := Lib.hid o5
             clear o5 g5 t5))
        go_roundw
        case rel => exact ⟨k + 1, no + 1, c5, A5, _, by omega, by go_num, rfl, by omega, HOU', HO5, HB5⟩
        case measure => simp [intOf]; omega
      · have HE : Hid (out = actsL t l) := by
          show _ = _
          rw [HOU.out, List.take_of_length_le (by rw [acts_len, HN.out]; omega)]
        rw [HE.out] at HO
        go_wp2
        go_ret
        rw [HX.out]
        obtain ⟨r1, r2, r3⟩ := ow_row HO.out
        have hle := HO.out.1
        rw [ints_len, Nat.mul_one] at hle
        exact ⟨A0, c0, by rw [hle]; rfl, by rw [hle]; exact r2, r3, r1, HBw.out⟩
end Go.Proofs.Ytkpblieanejmeaa
