/-
  breakauto.Right, ref29.Right, ref29.Left.
-/
import Derived.Test.YtkpblieanejmeaaBw6
namespace Go.Proofs.Ytkpblieanejmeaa
open Go.RowKit Go.UtYtkpblieanejmeaa
set_option maxRecDepth 100000 in
set_option maxHeartbeats 4000000 in
theorem right_any (x : TA) (t : BT) (A : Option Addr) (c : Nat) (l : List Int) (w : World) (h : TabAt w w.heap.size x t) (hsm : t.cls.length ≤ 1000 ∧ t.act.length ≤ 1000) (hl : Row w w.heap.size A (ints l)) (hll : l.length ≤ 100000) :
    Calls Try.prog 98 #[x.val t, .slice A l.length c] w (RetI w (rigL t l)) := by
  have CV := Lib.hid (fun (u : World) (hu : Below w.heap.size w u) (v' : Bool) (hv' : v' = true ↔ fitsL t l ∧ validT t) => fits_any x t A c l u (h.below hu).lt hsm (hl.below hu).lt hll v' hv')
  unfold TA.val at CV ⊢
  have HT := Lib.hid h
  have HL := Lib.hid hl
  obtain ⟨w1, hw1, HB1, HK1⟩ := boxT w 31 x t
  obtain ⟨q0, q1, q2, q3, q4, q5, ql⟩ := tab6 HK1.out
  obtain ⟨n, hn⟩ : ∃ n, l.length = n := ⟨_, rfl⟩
  obtain ⟨nc, hnc⟩ : ∃ n, t.cls.length = n := ⟨_, rfl⟩
  obtain ⟨ns, hns⟩ : ∃ n, t.rn.length = n := ⟨_, rfl⟩
  have HN := Lib.hid hn
  have HNC := Lib.hid hnc
  have HNS := Lib.hid hns
  rw [hn] at hll CV
  rw [hn]
  clear h hl hn hnc hns
  obtain ⟨i0, hi0, hz0, hz1, hz2⟩ := info_parts in_info31
  by_cases hP : fitsL t l ∧ validT t
  case neg =>
    have HX : Hid (rigL t l = []) := by
      show _ = _
      unfold rigL
      rw [if_neg hP]
    go_enter Try.func98, Try.ntmps98
    go_upto_region 1 with fail
    rw [← hw1]
    clear hw1
    go_wp2_with fail
    refine (CV.out w1 HB1.out false ⟨fun h => (by cases h), fun h => absurd h hP⟩).mono ?_
    rintro e w2 ⟨rfl, hb2⟩
    have HB2 := Lib.hid (HB1.out.trans (hb2.mono HB1.out.size))
    clear hb2
    go_wp2
    go_ret
    rw [HX.out]
    exact ⟨none, 0, rfl, by simp, by simp [maxLen], Row.nil, HB2.out⟩
  case pos =>
    have HX : Hid (rigL t l = rights t.rn l) := by
      show _ = _
      unfold rigL
      rw [if_pos hP]
    have HP := Lib.hid hP
    have HSO := Lib.hid hP.2.2.2.2.2
    clear hP
    go_enter Try.func98, Try.ntmps98
    go_upto_region 1 with fail
    rw [← hw1]
    clear hw1
    go_wp2_with fail
    refine (CV.out w1 HB1.out true ⟨fun _ => HP.out, fun _ => rfl⟩).mono ?_
    rintro e w2 ⟨rfl, hb2⟩
    have HB2 := Lib.hid (HB1.out.trans (hb2.mono HB1.out.size))
    have HK2 := Lib.hid (HK1.out.after hb2)
    clear hb2 q0 q1 q2 q3 q4 q5 ql
    go_upto_region 4 with (first
      | (at_make
         refine wpList_make_zero _ rfl _ _ 26 rfl 3 i0 _ Try.underlying26 hi0 hz0 hz1 rfl _ _ _ _ (n + 1) rfl rfl (by omega) (by omega) (by rw [hz2]; omega) (by simp only [maxLen]; omega) ?_
         intro w3 hk3 hb3))
    rw [rep_ints] at hk3
    have HB3 := Lib.hid (HB2.out.trans (hb3.out.mono HB2.out.size))
    have HK3 := Lib.hid (HK2.out.after hb3.out)
    obtain ⟨g, hg⟩ : ∃ g, g = w2.heap.size := ⟨_, rfl⟩
    rw [← hg] at hk3 ⊢
    have HGG : Hid (w.heap.size < g) := by
      show _ < _
      have := HK2.out.lt
      omega
    have hs2 := HB2.out.size
    have hgw : w.heap.size ≤ g := by omega
    have HST0 : Hid (∀ j, n ≤ j → j ≤ n → (List.replicate (n + 1) (0 : Int))[j]? = some (runR t.rn (l.drop j))) := fun j hj hj2 => by
      obtain rfl : j = n := by omega
      rw [List.drop_eq_nil_of_le (by rw [HN.out]; exact Nat.le_refl _)]
      simp [runR]
    clear hb3 hg
    obtain ⟨N, hN⟩ : ∃ N, n + 1 = N := ⟨_, rfl⟩
    have HNN := Lib.hid hN
    have hnN : n < N := by omega
    have hN2 : N ≤ 100001 := by omega
    rw [hN] at hk3 HST0 ⊢
    clear hN
    go_wp2
    go_loopw [6] (fun i wr => ∃ (k : Nat) (arr : List Int), k ≤ n ∧ i = .int .i64 ((k : Int) - 1) ∧ Hid (arr.length = N) ∧ Hid (∀ j, k ≤ j → j ≤ n → arr[j]? = some (runR t.rn (l.drop j))) ∧ Hid (Blk wr g 3 (ints arr).toArray) ∧ Hid (Blk wr w.heap.size 31 (x.cs t)) ∧ Hid (Below w.heap.size w wr)) (fun i _ => (intOf i + 1).toNat)
    case atStart => exact ⟨n, List.replicate N 0, by omega, rfl, List.length_replicate, HST0, hk3, HK3, HB3⟩
    case round =>
      obtain ⟨k1, arr, hk, rfl, HAL, HAR, HBL, HK, HB⟩ := hrel
      obtain ⟨q0, q1, q2, q3, q4, q5, ql⟩ := tab6 HK.out
      cases k1 with
      | succ k =>
        rw [show (((k + 1 : Nat) : Int) - 1) = (k : Int) by omega]
        obtain ⟨b, o, y, rfl, hb, hx, cc⟩ := (HL.out.below HB.out).at_int (k := k) (by rw [HN.out]; omega)
        have hyf := HP.out.1 y (List.mem_of_getElem? hx.out)
        rw [HNC.out] at hyf
        obtain ⟨yn, rfl⟩ : ∃ yn : Nat, y = (yn : Int) := ⟨y.toNat, by omega⟩
        have hst := runR_fit HSO.out (l.drop (k + 1)) (fun c hc => HP.out.1 c (List.mem_of_mem_drop hc))
        obtain ⟨s, hs⟩ : ∃ s, runR t.rn (l.drop (k + 1)) = s := ⟨_, rfl⟩
        have HRS := Lib.hid hs
        rw [hs, HNS.out] at hst
        obtain ⟨sn, rfl⟩ : ∃ sn : Nat, s = (sn : Int) := ⟨s.toNat, by omega⟩
        obtain ⟨bn, on, b2, o2, c2, hA, hbn, cc1, hb2, cc2, l1, l2⟩ := aut_at (HT.out.2.2.2.1.1.below HB.out) HSO.out (s := sn) (c := yn) (by rw [HNS.out]; omega) (by rw [HNC.out]; omega)
        rw [HNC.out] at cc1 l1
        rw [hA, HNS.out] at q4
        obtain ⟨d, hd⟩ : ∃ d, dl t.rn (sn : Int) (yn : Int) = d := ⟨_, rfl⟩
        have HDL := Lib.hid hd
        rw [hd] at cc2
        have HNX : Hid (runR t.rn (l.drop k) = d) := by
          show _ = _
          obtain ⟨h1, h2⟩ := List.getElem?_eq_some_iff.1 hx.out
          rw [List.drop_eq_getElem_cons h1, h2]
          show dl t.rn (runR t.rn (l.drop (k + 1))) (yn : Int) = d
          rw [HRS.out, HDL.out]
        have ccg : wr.cell? ⟨g, k + 1, none⟩ = some (.int .i64 (sn : Int)) := by
          rw [HBL.out.cell (k + 1)]
          have := HAR.out (k + 1) (Nat.le_refl _) hk
          rw [HRS.out] at this
          simp [ints, this]
        obtain ⟨od, cck⟩ : ∃ od, wr.cell? ⟨g, k, none⟩ = some (.int .i64 od) := by
          rw [HBL.out.cell k]
          refine ⟨arr[k]'(by rw [HAL.out]; omega), ?_⟩
          simp [ints]
        have HXA := Lib.hid hA
        clear hA
        have hbs := HB.out.size
        have hgl := HBL.out.lt
        have hfr := HBL.out.free k
        have f1 : sn < ns := by omega
        have f2 : yn < nc := by omega
        have f3 : k < N := by omega
        have f4 : k < n := by omega
        have e2 : (k : Int) + 1 < (N : Int) := by omega
        have e4 : (0 : Int) ≤ (k : Int) + 1 := by omega
        have e5 : ((k : Int) + 1).toNat = k + 1 := by omega
        have e3 : IntKind.i64.wrap ((k : Int) + 1) = (k : Int) + 1 := IntWalk.i64_in _ (by omega)
        have hbl : b < wr.heap.size := by omega
        clear hs hd
        go_wp2
        refine wp_region_tree (fun w' => (w'.cell? ⟨w.heap.size, 4, none⟩ = some (.slice (some ⟨bn, on, none⟩) ns x.crn) ∧ w.heap.size < w'.heap.size) ∧ w'.cell? ⟨g, k + 1, none⟩ = some (.int .i64 (sn : Int)) ∧ w'.cell? ⟨bn, on + sn, none⟩ = some (.slice (some ⟨b2, o2, none⟩) nc c2) ∧ w'.cell? ⟨b2, o2 + yn, none⟩ = some (.int .i64 d) ∧ w'.cell? ⟨b, o + k, none⟩ = some (.int .i64 (yn : Int))) (.float 0 (.float 1 (.float 2 (.float 3 (.float 4 (.float 5 (.float 6 (.float 7 (.float 8 (.float 9 (.float 10 (.float 11 (.float 12 (.float 13 (.float 14 (.float 15 (.float 16 (.float 17 (.float 18 (.one 19 .done)))))))))))))))))))) (by kernel_rfl) (by kernel_rfl) (fun _ _ d _ _ h => by cases d <;> exact h) ⟨⟨q4, ql⟩, ccg, cc1, cc2, cc⟩ ?_
        repeat (first
          | (refine wpTr_fskip (by simp only [List.getElem?_toArray, List.getElem?_cons_zero, List.getElem?_cons_succ]; rfl) (by rfl) ?_
             simp only [Act.put, List.setIfInBounds_toArray, List.set_cons_zero, List.set_cons_succ])
          | (refine wpTr_float (v := ?_) (by simp only [List.getElem?_toArray, List.getElem?_cons_zero, List.getElem?_cons_succ]; rfl) (by rfl) (fun w' hS => ?_) ?_
             rotate_left
             ((obtain ⟨⟨e0', e1'⟩, e2', e3', e4', e5'⟩ := hS); go_simp; first | done | rfl)
             simp only [Act.put, List.setIfInBounds_toArray, List.set_cons_zero, List.set_cons_succ]))
        refine wpTr_one ?_
        refine stepTr_K (by simp only [List.getElem?_toArray, List.getElem?_cons_zero, List.getElem?_cons_succ]; rfl) (by rfl) (fun K hK => ?_)
        go_simp
        have HW : Hid (Blk (wr.setCell ⟨g, k, none⟩ (.int .i64 d)).drew g 3 (ints (arr.set k d)).toArray) := by
          have := HBL.out.set_ k (.int .i64 d)
          rw [ints_set] at this
          exact this.drew
        obtain ⟨w5, hw5, HB5, HK5⟩ : ∃ u, u = (wr.setCell ⟨g, k, none⟩ (.int .i64 d)).drew ∧ Hid (Below w.heap.size wr u) ∧ Hid (Blk u w.heap.size 31 (x.cs t)) := ⟨_, rfl, ((Below.refl _ _).setCell (p := ⟨g, k, none⟩) hgw _).drew, (HK.out.far (p := ⟨g, k, none⟩) (by have := HGG.out; show _ ≠ g; omega) _).drew⟩
        rw [← hw5] at HW ⊢
        clear hw5
        have HAR' : Hid (∀ j, k ≤ j → j ≤ n → (arr.set k d)[j]? = some (runR t.rn (l.drop j))) := fun j hj hj2 => by
          by_cases hjk : j = k
          · subst hjk
            rw [List.getElem?_set_self (by rw [HAL.out]; omega), HNX.out]
          · rw [List.getElem?_set_ne (by omega)]
            exact HAR.out j (by omega) hj2
        have ccg5 : w5.cell? ⟨g, k + 1, none⟩ = some (.int .i64 (sn : Int)) := by
          rw [HW.out.cell (k + 1)]
          have := HAR.out (k + 1) (Nat.le_refl _) hk
          rw [HRS.out] at this
          simp [ints, this]
        have HB5' := Lib.hid (HB.out.trans HB5.out)
        obtain ⟨p0, p1, p2, p3, p4, p5, pl⟩ := tab6 HK5.out
        rw [HXA.out, HNS.out] at p4
        refine hK.out _ _ ⟨⟨p4, pl⟩, ccg5, (HB5.out.cell (p := ⟨bn, on + sn, none⟩) hbn).trans cc1, (HB5.out.cell (p := ⟨b2, o2 + yn, none⟩) hb2).trans cc2, (HB5.out.cell (p := ⟨b, o + k, none⟩) hb).trans cc⟩ ?_
        clear hK K
        try simp only [Act.put, List.setIfInBounds_toArray, List.set_cons_zero, List.set_cons_succ]
        refine wpTr_done ?_
        go_wp2
        go_roundw
        case rel => exact ⟨k, arr.set k d, by omega, by go_num, by show _ = _; rw [List.length_set]; exact HAL.out, HAR', HW, HK5, HB5'⟩
        case measure => simp [intOf]
      | zero =>
        have HE : Hid (arr = rights t.rn l) := list_ext (by rw [HAL.out, rights_len, HN.out]; exact HNN.out.symm) (fun j hj => by
          rw [rights_len, HN.out] at hj
          rw [rights_get (by rw [HN.out]; omega)]
          exact HAR.out j (by omega) (by omega))
        go_wp2
        go_ret
        rw [HX.out]
        have HRW : Row wr wr.heap.size (some ⟨g, 0, none⟩) (ints (rights t.rn l)) := HBL.out.row (by rw [HE.out])
        exact ⟨some ⟨g, 0, none⟩, N, by rw [rights_len, HN.out, HNN.out]; rfl, by rw [rights_len, HN.out, HNN.out]; exact Nat.le_refl _, by simp only [maxLen]; omega, HRW, HB.out⟩
set_option maxRecDepth 100000 in
set_option maxHeartbeats 4000000 in
theorem rright_any (x : TA) (t : BT) (A : Option Addr) (c : Nat) (l : List Int) (w : World) (h : TabAt w w.heap.size x t) (hsm : t.cls.length ≤ 1000 ∧ t.act.length ≤ 1000) (hl : Row w w.heap.size A (ints l)) (hll : l.length ≤ 100000) :
    Calls Try.prog 91 #[x.val t, .slice A l.length c] w (RetI w (rigL t l)) := by
  have CV := Lib.hid (fun (u : World) (hu : Below w.heap.size w u) (v' : Bool) (hv' : v' = true ↔ fitsL t l ∧ validT t) => usable_any x t A c l u (h.below hu).lt hsm (hl.below hu).lt hll v' hv')
  unfold TA.val at CV ⊢
  have HT := Lib.hid h
  have HL := Lib.hid hl
  obtain ⟨w1, hw1, HB1, HK1⟩ := boxT w 31 x t
  obtain ⟨q0, q1, q2, q3, q4, q5, ql⟩ := tab6 HK1.out
  obtain ⟨n, hn⟩ : ∃ n, l.length = n := ⟨_, rfl⟩
  obtain ⟨nc, hnc⟩ : ∃ n, t.cls.length = n := ⟨_, rfl⟩
  obtain ⟨ns, hns⟩ : ∃ n, t.rn.length = n := ⟨_, rfl⟩
  have HN := Lib.hid hn
  have HNC := Lib.hid hnc
  have HNS := Lib.hid hns
  rw [hn] at hll CV
  rw [hn]
  clear h hl hn hnc hns
  obtain ⟨i0, hi0, hz0, hz1, hz2⟩ := info_parts in_info31
  by_cases hP : fitsL t l ∧ validT t
  case neg =>
    have HX : Hid (rigL t l = []) := by
      show _ = _
      unfold rigL
      rw [if_neg hP]
    go_enter Try.func91, Try.ntmps91
    go_upto_region 1 with fail
    rw [← hw1]
    clear hw1
    go_wp2_with fail
    refine (CV.out w1 HB1.out false ⟨fun h => (by cases h), fun h => absurd h hP⟩).mono ?_
    rintro e w2 ⟨rfl, hb2⟩
    have HB2 := Lib.hid (HB1.out.trans (hb2.mono HB1.out.size))
    clear hb2
    go_wp2
    go_ret
    rw [HX.out]
    exact ⟨none, 0, rfl, by simp, by simp [maxLen], Row.nil, HB2.out⟩
  case pos =>
    have HX : Hid (rigL t l = rights t.rn l) := by
      show _ = _
      unfold rigL
      rw [if_pos hP]
    have HP := Lib.hid hP
    have HSO := Lib.hid hP.2.2.2.2.2
    clear hP
    go_enter Try.func91, Try.ntmps91
    go_upto_region 1 with fail
    rw [← hw1]
    clear hw1
    go_wp2_with fail
    refine (CV.out w1 HB1.out true ⟨fun _ => HP.out, fun _ => rfl⟩).mono ?_
    rintro e w2 ⟨rfl, hb2⟩
    have HB2 := Lib.hid (HB1.out.trans (hb2.mono HB1.out.size))
    have HK2 := Lib.hid (HK1.out.after hb2)
    clear hb2 q0 q1 q2 q3 q4 q5 ql
    go_upto_region 4 with (first
      | (at_make
         refine wpList_make_zero _ rfl _ _ 26 rfl 3 i0 _ Try.underlying26 hi0 hz0 hz1 rfl _ _ _ _ (n + 1) rfl rfl (by omega) (by omega) (by rw [hz2]; omega) (by simp only [maxLen]; omega) ?_
         intro w3 hk3 hb3))
    rw [rep_ints] at hk3
    have HB3 := Lib.hid (HB2.out.trans (hb3.out.mono HB2.out.size))
    have HK3 := Lib.hid (HK2.out.after hb3.out)
    obtain ⟨g, hg⟩ : ∃ g, g = w2.heap.size := ⟨_, rfl⟩
    rw [← hg] at hk3 ⊢
    have HGG : Hid (w.heap.size < g) := by
      show _ < _
      have := HK2.out.lt
      omega
    have hs2 := HB2.out.size
    have hgw : w.heap.size ≤ g := by omega
    have HST0 : Hid (∀ j, n ≤ j → j ≤ n → (List.replicate (n + 1) (0 : Int))[j]? = some (runR t.rn (l.drop j))) := fun j hj hj2 => by
      obtain rfl : j = n := by omega
      rw [List.drop_eq_nil_of_le (by rw [HN.out]; exact Nat.le_refl _)]
      simp [runR]
    clear hb3 hg
    obtain ⟨N, hN⟩ : ∃ N, n + 1 = N := ⟨_, rfl⟩
    have HNN := Lib.hid hN
    have hnN : n < N := by omega
    have hN2 : N ≤ 100001 := by omega
    rw [hN] at hk3 HST0 ⊢
    clear hN
    go_wp2
    go_loopw [6] (fun i wr => ∃ (k : Nat) (arr : List Int), k ≤ n ∧ i = .int .i64 ((k : Int) - 1) ∧ Hid (arr.length = N) ∧ Hid (∀ j, k ≤ j → j ≤ n → arr[j]? = some (runR t.rn (l.drop j))) ∧ Hid (Blk wr g 3 (ints arr).toArray) ∧ Hid (Blk wr w.heap.size 31 (x.cs t)) ∧ Hid (Below w.heap.size w wr)) (fun i _ => (intOf i + 1).toNat)
    case atStart => exact ⟨n, List.replicate N 0, by omega, rfl, List.length_replicate, HST0, hk3, HK3, HB3⟩
    case round =>
      obtain ⟨k1, arr, hk, rfl, HAL, HAR, HBL, HK, HB⟩ := hrel
      obtain ⟨q0, q1, q2, q3, q4, q5, ql⟩ := tab6 HK.out
      cases k1 with
      | succ k =>
        rw [show (((k + 1 : Nat) : Int) - 1) = (k : Int) by omega]
        obtain ⟨b, o, y, rfl, hb, hx, cc⟩ := (HL.out.below HB.out).at_int (k := k) (by rw [HN.out]; omega)
        have hyf := HP.out.1 y (List.mem_of_getElem? hx.out)
        rw [HNC.out] at hyf
        obtain ⟨yn, rfl⟩ : ∃ yn : Nat, y = (yn : Int) := ⟨y.toNat, by omega⟩
        have hst := runR_fit HSO.out (l.drop (k + 1)) (fun c hc => HP.out.1 c (List.mem_of_mem_drop hc))
        obtain ⟨s, hs⟩ : ∃ s, runR t.rn (l.drop (k + 1)) = s := ⟨_, rfl⟩
        have HRS := Lib.hid hs
        rw [hs, HNS.out] at hst
        obtain ⟨sn, rfl⟩ : ∃ sn : Nat, s = (sn : Int) := ⟨s.toNat, by omega⟩
        obtain ⟨bn, on, b2, o2, c2, hA, hbn, cc1, hb2, cc2, l1, l2⟩ := aut_at (HT.out.2.2.2.1.1.below HB.out) HSO.out (s := sn) (c := yn) (by rw [HNS.out]; omega) (by rw [HNC.out]; omega)
        rw [HNC.out] at cc1 l1
        rw [hA, HNS.out] at q4
        obtain ⟨d, hd⟩ : ∃ d, dl t.rn (sn : Int) (yn : Int) = d := ⟨_, rfl⟩
        have HDL := Lib.hid hd
        rw [hd] at cc2
        have HNX : Hid (runR t.rn (l.drop k) = d) := by
          show _ = _
          obtain ⟨h1, h2⟩ := List.getElem?_eq_some_iff.1 hx.out
          rw [List.drop_eq_getElem_cons h1, h2]
          show dl t.rn (runR t.rn (l.drop (k + 1))) (yn : Int) = d
          rw [HRS.out, HDL.out]
        have ccg : wr.cell? ⟨g, k + 1, none⟩ = some (.int .i64 (sn : Int)) := by
          rw [HBL.out.cell (k + 1)]
          have := HAR.out (k + 1) (Nat.le_refl _) hk
          rw [HRS.out] at this
          simp [ints, this]
        obtain ⟨od, cck⟩ : ∃ od, wr.cell? ⟨g, k, none⟩ = some (.int .i64 od) := by
          rw [HBL.out.cell k]
          refine ⟨arr[k]'(by rw [HAL.out]; omega), ?_⟩
          simp [ints]
        have HXA := Lib.hid hA
        clear hA
        have hbs := HB.out.size
        have hgl := HBL.out.lt
        have hfr := HBL.out.free k
        have f1 : sn < ns := by omega
        have f2 : yn < nc := by omega
        have f3 : k < N := by omega
        have f4 : k < n := by omega
        have e2 : (k : Int) + 1 < (N : Int) := by omega
        have e4 : (0 : Int) ≤ (k : Int) + 1 := by omega
        have e5 : ((k : Int) + 1).toNat = k + 1 := by omega
        have e3 : IntKind.i64.wrap ((k : Int) + 1) = (k : Int) + 1 := IntWalk.i64_in _ (by omega)
        have hbl : b < wr.heap.size := by omega
        clear hs hd
        go_wp2
        refine wp_region_tree (fun w' => (w'.cell? ⟨w.heap.size, 4, none⟩ = some (.slice (some ⟨bn, on, none⟩) ns x.crn) ∧ w.heap.size < w'.heap.size) ∧ w'.cell? ⟨g, k + 1, none⟩ = some (.int .i64 (sn : Int)) ∧ w'.cell? ⟨bn, on + sn, none⟩ = some (.slice (some ⟨b2, o2, none⟩) nc c2) ∧ w'.cell? ⟨b2, o2 + yn, none⟩ = some (.int .i64 d) ∧ w'.cell? ⟨b, o + k, none⟩ = some (.int .i64 (yn : Int))) (.float 0 (.float 1 (.float 2 (.float 3 (.float 4 (.float 5 (.float 6 (.float 7 (.float 8 (.float 9 (.float 10 (.float 11 (.float 12 (.float 13 (.float 14 (.float 15 (.float 16 (.float 17 (.float 18 (.one 19 .done)))))))))))))))))))) (by kernel_rfl) (by kernel_rfl) (fun _ _ d _ _ h => by cases d <;> exact h) ⟨⟨q4, ql⟩, ccg, cc1, cc2, cc⟩ ?_
        repeat (first
          | (refine wpTr_fskip (by simp only [List.getElem?_toArray, List.getElem?_cons_zero, List.getElem?_cons_succ]; rfl) (by rfl) ?_
             simp only [Act.put, List.setIfInBounds_toArray, List.set_cons_zero, List.set_cons_succ])
          | (refine wpTr_float (v := ?_) (by simp only [List.getElem?_toArray, List.getElem?_cons_zero, List.getElem?_cons_succ]; rfl) (by rfl) (fun w' hS => ?_) ?_
             rotate_left
             ((obtain ⟨⟨e0', e1'⟩, e2', e3', e4', e5'⟩ := hS); go_simp; first | done | rfl)
             simp only [Act.put, List.setIfInBounds_toArray, List.set_cons_zero, List.set_cons_succ]))
        refine wpTr_one ?_
        refine stepTr_K (by simp only [List.getElem?_toArray, List.getElem?_cons_zero, List.getElem?_cons_succ]; rfl) (by rfl) (fun K hK => ?_)
        go_simp
        have HW : Hid (Blk (wr.setCell ⟨g, k, none⟩ (.int .i64 d)).drew g 3 (ints (arr.set k d)).toArray) := by
          have := HBL.out.set_ k (.int .i64 d)
          rw [ints_set] at this
          exact this.drew
        obtain ⟨w5, hw5, HB5, HK5⟩ : ∃ u, u = (wr.setCell ⟨g, k, none⟩ (.int .i64 d)).drew ∧ Hid (Below w.heap.size wr u) ∧ Hid (Blk u w.heap.size 31 (x.cs t)) := ⟨_, rfl, ((Below.refl _ _).setCell (p := ⟨g, k, none⟩) hgw _).drew, (HK.out.far (p := ⟨g, k, none⟩) (by have := HGG.out; show _ ≠ g; omega) _).drew⟩
        rw [← hw5] at HW ⊢
        clear hw5
        have HAR' : Hid (∀ j, k ≤ j → j ≤ n → (arr.set k d)[j]? = some (runR t.rn (l.drop j))) := fun j hj hj2 => by
          by_cases hjk : j = k
          · subst hjk
            rw [List.getElem?_set_self (by rw [HAL.out]; omega), HNX.out]
          · rw [List.getElem?_set_ne (by omega)]
            exact HAR.out j (by omega) hj2
        have ccg5 : w5.cell? ⟨g, k + 1, none⟩ = some (.int .i64 (sn : Int)) := by
          rw [HW.out.cell (k + 1)]
          have := HAR.out (k + 1) (Nat.le_refl _) hk
          rw [HRS.out] at this
          simp [ints, this]
        have HB5' := Lib.hid (HB.out.trans HB5.out)
        obtain ⟨p0, p1, p2, p3, p4, p5, pl⟩ := tab6 HK5.out
        rw [HXA.out, HNS.out] at p4
        refine hK.out _ _ ⟨⟨p4, pl⟩, ccg5, (HB5.out.cell (p := ⟨bn, on + sn, none⟩) hbn).trans cc1, (HB5.out.cell (p := ⟨b2, o2 + yn, none⟩) hb2).trans cc2, (HB5.out.cell (p := ⟨b, o + k, none⟩) hb).trans cc⟩ ?_
        clear hK K
        try simp only [Act.put, List.setIfInBounds_toArray, List.set_cons_zero, List.set_cons_succ]
        refine wpTr_done ?_
        go_wp2
        go_roundw
        case rel => exact ⟨k, arr.set k d, by omega, by go_num, by show _ = _; rw [List.length_set]; exact HAL.out, HAR', HW, HK5, HB5'⟩
        case measure => simp [intOf]
      | zero =>
        have HE : Hid (arr = rights t.rn l) := list_ext (by rw [HAL.out, rights_len, HN.out]; exact HNN.out.symm) (fun j hj => by
          rw [rights_len, HN.out] at hj
          rw [rights_get (by rw [HN.out]; omega)]
          exact HAR.out j (by omega) (by omega))
        go_wp2
        go_ret
        rw [HX.out]
        have HRW : Row wr wr.heap.size (some ⟨g, 0, none⟩) (ints (rights t.rn l)) := HBL.out.row (by rw [HE.out])
        exact ⟨some ⟨g, 0, none⟩, N, by rw [rights_len, HN.out, HNN.out]; rfl, by rw [rights_len, HN.out, HNN.out]; exact Nat.le_refl _, by simp only [maxLen]; omega, HRW, HB.out⟩
set_option maxRecDepth 100000 in
set_option maxHeartbeats 4000000 in
theorem rleft_any (x : TA) (t : BT) (A : Option Addr) (c : Nat) (l : List Int) (w : World) (h : TabAt w w.heap.size x t) (hsm : t.cls.length ≤ 1000 ∧ t.act.length ≤ 1000) (hl : Row w w.heap.size A (ints l)) (hll : l.length ≤ 100000) :
    Calls Try.prog 90 #[x.val t, .slice A l.length c] w (RetI w (lefL t l)) := by
  have CV := Lib.hid (fun (u : World) (hu : Below w.heap.size w u) (v' : Bool) (hv' : v' = true ↔ fitsL t l ∧ validT t) => usable_any x t A c l u (h.below hu).lt hsm (hl.below hu).lt hll v' hv')
  unfold TA.val at CV ⊢
  have HT := Lib.hid h
  have HL := Lib.hid hl
  obtain ⟨w1, hw1, HB1, HK1⟩ := boxT w 31 x t
  obtain ⟨q0, q1, q2, q3, q4, q5, ql⟩ := tab6 HK1.out
  obtain ⟨n, hn⟩ : ∃ n, l.length = n := ⟨_, rfl⟩
  obtain ⟨nc, hnc⟩ : ∃ n, t.cls.length = n := ⟨_, rfl⟩
  obtain ⟨ns, hns⟩ : ∃ n, t.ln.length = n := ⟨_, rfl⟩
  have HN := Lib.hid hn
  have HNC := Lib.hid hnc
  have HNS := Lib.hid hns
  rw [hn] at hll CV
  rw [hn]
  clear h hl hn hnc hns
  obtain ⟨i0, hi0, hz0, hz1, hz2⟩ := info_parts in_info31
  by_cases hP : fitsL t l ∧ validT t
  case neg =>
    have HX : Hid (lefL t l = []) := by
      show _ = _
      unfold lefL
      rw [if_neg hP]
    go_enter Try.func90, Try.ntmps90
    go_upto_region 1 with fail
    rw [← hw1]
    clear hw1
    go_wp2_with fail
    refine (CV.out w1 HB1.out false ⟨fun h => (by cases h), fun h => absurd h hP⟩).mono ?_
    rintro e w2 ⟨rfl, hb2⟩
    have HB2 := Lib.hid (HB1.out.trans (hb2.mono HB1.out.size))
    clear hb2
    go_wp2
    go_ret
    rw [HX.out]
    exact ⟨none, 0, rfl, by simp, by simp [maxLen], Row.nil, HB2.out⟩
  case pos =>
    have HX : Hid (lefL t l = lefts t.ln l) := by
      show _ = _
      unfold lefL
      rw [if_pos hP]
    have HP := Lib.hid hP
    have HSO := Lib.hid hP.2.2.2.2.1
    clear hP
    go_enter Try.func90, Try.ntmps90
    go_upto_region 1 with fail
    rw [← hw1]
    clear hw1
    go_wp2_with fail
    refine (CV.out w1 HB1.out true ⟨fun _ => HP.out, fun _ => rfl⟩).mono ?_
    rintro e w2 ⟨rfl, hb2⟩
    have HB2 := Lib.hid (HB1.out.trans (hb2.mono HB1.out.size))
    have HK2 := Lib.hid (HK1.out.after hb2)
    clear hb2 q0 q1 q2 q3 q4 q5 ql
    obtain ⟨w3, hw3, HB3', HRW3⟩ : ∃ u, u = w2.alloc (.cells #[.int .i64 0] 3) ∧ Hid (Below w2.heap.size w2 u) ∧ Hid (u.ownsRow w2.heap.size 3 1 (.slice (some ⟨w2.heap.size, 0, none⟩) 1 1) 1 (ints [0])) := ⟨_, rfl, (Below.refl _ _).alloc (Nat.le_refl _) _, rfl, .inr ⟨w2.heap.size, 1, #[.int .i64 0], rfl, Nat.le_refl _, heap_alloc_new w2 _, by omega, by simp [maxLen], rfl, rfl⟩⟩
    go_upto_region 4 with fail
    rw [← hw3]
    clear hw3
    have HB3 := Lib.hid (HB2.out.trans (HB3'.out.mono HB2.out.size))
    have HK3 := Lib.hid (HK2.out.after HB3'.out)
    obtain ⟨B0, hB0⟩ : ∃ g, g = w2.heap.size := ⟨_, rfl⟩
    rw [← hB0] at HRW3 ⊢
    have HGG : Hid (w.heap.size < B0) := by
      show _ < _
      have := HK2.out.lt
      omega
    have hs2 := HB2.out.size
    have hgw : w.heap.size ≤ B0 := by omega
    have HS3 : Hid (B0 ≤ w3.heap.size) := by
      show _ ≤ _
      have := HB3'.out.size
      omega
    clear hB0
    have HST0 : Hid ([0] = (lefts t.ln l).take (0 + 1)) := by
      show _ = _
      have h1 := lefts_get (nx := t.ln) (l := l) (i := 0) (by omega)
      obtain ⟨h2, h3⟩ := List.getElem?_eq_some_iff.1 h1
      rw [List.take_succ_eq_append_getElem h2, h3]
      simp [runA]
    go_wp2
    go_loopw [5, 6] (fun vo i wr => ∃ (k no c0 : Nat) (A0 : Option Addr) (out : List Int), k ≤ n ∧ i = .int .i64 (k : Int) ∧ vo = .slice A0 no c0 ∧ k < no ∧ no ≤ k + 1 ∧ Hid (out = (lefts t.ln l).take (k + 1)) ∧ Hid (wr.ownsRow B0 3 1 (.slice A0 no c0) no (ints out)) ∧ Hid (Blk wr w.heap.size 31 (x.cs t)) ∧ Hid (Below w.heap.size w wr) ∧ Hid (B0 ≤ wr.heap.size)) (fun _ i _ => n - (intOf i).toNat)
    case atStart => exact ⟨0, 1, 1, some ⟨B0, 0, none⟩, [0], by omega, rfl, rfl, by omega, by omega, HST0, HRW3, HK3, HB3, HS3⟩
    case round =>
      obtain ⟨k, no, c0, A0, out, hk, rfl, rfl, hno1, hno2, HOU, HO, HK, HB, HBS⟩ := hrel
      obtain ⟨q0, q1, q2, q3, q4, q5, ql⟩ := tab6 HK.out
      have hlo : (lefts t.ln l).length = n + 1 := by rw [lefts_len, HN.out]
      have HLO := Lib.hid hlo
      clear hlo
      by_cases hkn : k < n
      · obtain ⟨b, o, y, rfl, hb, hx, cc⟩ := (HL.out.below HB.out).at_int (k := k) (by rw [HN.out]; exact hkn)
        have hyf := HP.out.1 y (List.mem_of_getElem? hx.out)
        rw [HNC.out] at hyf
        obtain ⟨yn, rfl⟩ : ∃ yn : Nat, y = (yn : Int) := ⟨y.toNat, by omega⟩
        have hst := runA_fit HSO.out (l.take k) 0 ⟨by omega, by have := HSO.out.1.1; omega⟩ (fun c hc => HP.out.1 c (List.mem_of_mem_take hc))
        obtain ⟨s, hs⟩ : ∃ s, runA t.ln 0 (l.take k) = s := ⟨_, rfl⟩
        have HRS := Lib.hid hs
        rw [hs, HNS.out] at hst
        obtain ⟨sn, rfl⟩ : ∃ sn : Nat, s = (sn : Int) := ⟨s.toNat, by omega⟩
        obtain ⟨bn, on, b2, o2, c2, hA, hbn, cc1, hb2, cc2, l1, l2⟩ := aut_at (HT.out.2.2.1.1.1.below HB.out) HSO.out (s := sn) (c := yn) (by rw [HNS.out]; omega) (by rw [HNC.out]; omega)
        rw [HNC.out] at cc1 l1
        rw [hA, HNS.out] at q2
        obtain ⟨d, hd⟩ : ∃ d, dl t.ln (sn : Int) (yn : Int) = d := ⟨_, rfl⟩
        have HDL := Lib.hid hd
        rw [hd] at cc2
        have HNX : Hid (runA t.ln 0 (l.take (k + 1)) = d) := by
          show _ = _
          obtain ⟨h1, h2⟩ := List.getElem?_eq_some_iff.1 hx.out
          rw [List.take_succ_eq_append_getElem h1, h2, runA_snoc, HRS.out, HDL.out]
        have HOU' : Hid (out ++ [d] = (lefts t.ln l).take (k + 1 + 1)) := by
          show _ = _
          have h1 := lefts_get (nx := t.ln) (l := l) (i := k + 1) (by rw [HN.out]; omega)
          obtain ⟨h2, h3⟩ := List.getElem?_eq_some_iff.1 h1
          rw [List.take_succ_eq_append_getElem h2, h3, HNX.out, HOU.out]
        have hok : out[k]? = some (sn : Int) := by
          rw [HOU.out, List.getElem?_take, if_pos (by omega), lefts_get (by rw [HN.out]; omega), HRS.out]
        obtain ⟨bo, oo, xo, hAo, hbo, hxo, cco⟩ := (ow_row HO.out).1.at_int (k := k) ((List.getElem?_eq_some_iff.1 hok).1)
        obtain rfl : xo = (sn : Int) := by
          have := hxo.out
          rw [hok] at this
          injection this with this
          exact this.symm
        subst hAo
        have HXA := Lib.hid hA
        clear hA hok
        have hbs := HB.out.size
        have k1 : sn < ns := by omega
        have k2 : yn < nc := by omega
        have hbl : b < wr.heap.size := by omega
        obtain ⟨hoo, hoc⟩ := (ow_row HO.out).2
        unfold maxLen at hoc
        have hbo2 : B0 ≤ bo := own_new HO.out _ rfl
        clear hs hd
        go_wp2
        refine wp_region_tree (fun w' => (w'.cell? ⟨w.heap.size, 2, none⟩ = some (.slice (some ⟨bn, on, none⟩) ns x.cln) ∧ w.heap.size < w'.heap.size) ∧ w'.cell? ⟨bn, on + sn, none⟩ = some (.slice (some ⟨b2, o2, none⟩) nc c2) ∧ w'.cell? ⟨b2, o2 + yn, none⟩ = some (.int .i64 d) ∧ w'.cell? ⟨b, o + k, none⟩ = some (.int .i64 (yn : Int))) (.float 0 (.float 1 (.float 2 (.float 3 (.float 4 (.float 5 (.float 6 (.float 10 (.float 11 (.float 12 (.float 13 (.one 7 (.float 8 (.float 9 (.float 14 (.float 15 (.one 16 (.one 17 (.float 18 .done))))))))))))))))))) (by kernel_rfl) (by kernel_rfl) (fun _ _ d _ _ h => by cases d <;> exact h) ⟨⟨q2, ql⟩, cc1, cc2, cc⟩ ?_
        obtain ⟨wd, hwd⟩ : ∃ u, u = wr.drew := ⟨_, rfl⟩
        have HBd : Hid (Below wr.heap.size wr wd) := by rw [hwd]; exact (Below.refl _ _).drew
        have ccd : wd.cell? ⟨bo, oo + k, none⟩ = some (.int .i64 (sn : Int)) := by rw [hwd]; exact cco
        have hbod : bo < wd.heap.size := by rw [hwd]; exact hbo
        rw [← hwd]
        clear hwd
        have HBwd : Hid (Below w.heap.size wr wd) := HBd.out.mono hbs
        have HKd := Lib.hid (HK.out.after HBd.out)
        obtain ⟨d0, d1, d2, d3, d4, d5, dlt⟩ := tab6 HKd.out
        rw [HXA.out, HNS.out] at d2
        have HOd := Lib.hid (ow_below HO.out HBd.out)
        repeat (first
          | (refine wpTr_fskip (by simp only [List.getElem?_toArray, List.getElem?_cons_zero, List.getElem?_cons_succ]; rfl) (by rfl) ?_
             simp only [Act.put, List.setIfInBounds_toArray, List.set_cons_zero, List.set_cons_succ])
          | (refine wpTr_float (v := ?_) (by simp only [List.getElem?_toArray, List.getElem?_cons_zero, List.getElem?_cons_succ]; rfl) (by rfl) (fun w' hS => ?_) ?_
             rotate_left
             ((obtain ⟨⟨e0', e1'⟩, e3', e4', e5'⟩ := hS); go_simp; first | done | rfl)
             simp only [Act.put, List.setIfInBounds_toArray, List.set_cons_zero, List.set_cons_succ]))
        refine wpTr_one ?_
        refine stepTr_K (by simp only [List.getElem?_toArray, List.getElem?_cons_zero, List.getElem?_cons_succ]; rfl) (by rfl) (fun K hK => ?_)
        go_simp
        refine hK.out _ _ ⟨⟨d2, dlt⟩, (HBwd.out.cell (p := ⟨bn, on + sn, none⟩) hbn).trans cc1, (HBwd.out.cell (p := ⟨b2, o2 + yn, none⟩) hb2).trans cc2, (HBwd.out.cell (p := ⟨b, o + k, none⟩) hb).trans cc⟩ ?_
        clear hK K
        try simp only [Act.put, List.setIfInBounds_toArray, List.set_cons_zero, List.set_cons_succ]
        repeat (first
          | (refine wpTr_fskip (by simp only [List.getElem?_toArray, List.getElem?_cons_zero, List.getElem?_cons_succ]; rfl) (by rfl) ?_
             simp only [Act.put, List.setIfInBounds_toArray, List.set_cons_zero, List.set_cons_succ])
          | (refine wpTr_float (v := ?_) (by simp only [List.getElem?_toArray, List.getElem?_cons_zero, List.getElem?_cons_succ]; rfl) (by rfl) (fun w' hS => ?_) ?_
             rotate_left
             ((obtain ⟨⟨e0', e1'⟩, e3', e4', e5'⟩ := hS); go_simp; first | done | rfl)
             simp only [Act.put, List.setIfInBounds_toArray, List.set_cons_zero, List.set_cons_succ]))
        refine wpTr_one ?_
        refine stepTr_K (by simp only [List.getElem?_toArray, List.getElem?_cons_zero, List.getElem?_cons_succ]; rfl) (by rfl) (fun K hK => ?_)
        go_simp
        obtain ⟨wl, hwl, HBl, HKL⟩ : ∃ v, v = wd.alloc (.cells #[.int .i64 d] 3) ∧ Hid (Below wd.heap.size wd v) ∧ Hid (Row v (wd.heap.size + 1) (some ⟨wd.heap.size, 0, none⟩) [.int .i64 d]) := ⟨_, rfl, (Below.refl _ _).alloc (Nat.le_refl _) _, row_lit wd _ _⟩
        rw [← hwl]
        obtain ⟨lb, hlb⟩ : ∃ y, y = wd.heap.size := ⟨_, rfl⟩
        rw [← hlb] at HKL ⊢
        clear hwl hlb
        have HBwl : Hid (Below w.heap.size wr wl) := HBwd.out.trans (HBl.out.mono (by have := HBwd.out.size; omega))
        have HKl := Lib.hid (HKd.out.after HBl.out)
        obtain ⟨a0, a1, a2, a3, a4, a5, al⟩ := tab6 HKl.out
        rw [HXA.out, HNS.out] at a2
        have HOl := Lib.hid (ow_below HOd.out HBl.out)
        have HBSl : Hid (B0 ≤ wl.heap.size) := by
          show _ ≤ _
          have := HBl.out.size
          have := HBd.out.size
          have := HBS.out
          omega
        refine hK.out _ _ ⟨⟨a2, al⟩, (HBwl.out.cell (p := ⟨bn, on + sn, none⟩) hbn).trans cc1, (HBwl.out.cell (p := ⟨b2, o2 + yn, none⟩) hb2).trans cc2, (HBwl.out.cell (p := ⟨b, o + k, none⟩) hb).trans cc⟩ ?_
        clear hK K
        try simp only [Act.put, List.setIfInBounds_toArray, List.set_cons_zero, List.set_cons_succ]
        refine wpTr_one ?_
        refine stepTr_K (by simp only [List.getElem?_toArray, List.getElem?_cons_zero, List.getElem?_cons_succ]; rfl) (by rfl) (fun K hK => ?_)
        refine wp_append_row _ (.tmp 18) (.tmp 34) _ rfl B0 3 i0 _ 1 8 Try.underlying26 hi0 hz0 hz1 hz2 rfl (by omega) (.slice (some ⟨bo, oo, none⟩) no c0) no (ints out) rfl HOl.out _ _ 1 1 [.int .i64 d] rfl rfl HKL.out (ints_one1 _) (by simp only [maxLen]; omega) (by omega) HBSl.out ?_
        intro q6 w6 o6 g6 t6
        obtain ⟨A6, c6, rfl⟩ := ow_slice (m := no + 1) o6 rfl
        rw [← ints_snoc] at o6
        have HO6 := Lib.hid o6
        have HB6 : Hid (Below w.heap.size wr w6) := HBwl.out.grown g6 (by have := HBwl.out.size; omega) (fun z hz => by have := own_base HOl.out z hz; omega)
        have HK6 : Hid (Blk w6 w.heap.size 31 (x.cs t)) := bk_grown HKl.out g6 (fun e => by have := own_base HOl.out w.heap.size e.symm; have := HGG.out; omega)
        have HBS6 : Hid (B0 ≤ w6.heap.size) := by
          show _ ≤ _
          have := g6.size
          have := HBSl.out
          omega
        clear o6 g6 t6
        obtain ⟨p0, p1, p2, p3, p4, p5, pl⟩ := tab6 HK6.out
        rw [HXA.out, HNS.out] at p2
        refine hK.out _ _ ⟨⟨p2, pl⟩, (HB6.out.cell (p := ⟨bn, on + sn, none⟩) hbn).trans cc1, (HB6.out.cell (p := ⟨b2, o2 + yn, none⟩) hb2).trans cc2, (HB6.out.cell (p := ⟨b, o + k, none⟩) hb).trans cc⟩ ?_
        clear hK K
        try simp only [Act.put, List.setIfInBounds_toArray, List.set_cons_zero, List.set_cons_succ]
        repeat (first
          | (refine wpTr_fskip (by simp only [List.getElem?_toArray, List.getElem?_cons_zero, List.getElem?_cons_succ]; rfl) (by rfl) ?_
             simp only [Act.put, List.setIfInBounds_toArray, List.set_cons_zero, List.set_cons_succ])
          | (refine wpTr_float (v := ?_) (by simp only [List.getElem?_toArray, List.getElem?_cons_zero, List.getElem?_cons_succ]; rfl) (by rfl) (fun w' hS => ?_) ?_
             rotate_left
             ((skip); go_simp; first | done | rfl)
             simp only [Act.put, List.setIfInBounds_toArray, List.set_cons_zero, List.set_cons_succ]))
        refine wpTr_done ?_
        have HB6' := Lib.hid (HB.out.trans HB6.out)
        go_wp2
        go_roundw
        case rel => exact ⟨k + 1, no + 1, c6, A6, _, by omega, by go_num, rfl, by omega, by omega, HOU', HO6, HK6, HB6', HBS6⟩
        case measure => simp [intOf]; omega
      · obtain rfl : n = k := by omega
        have HE : Hid (out = lefts t.ln l) := by
          show _ = _
          rw [HOU.out, List.take_of_length_le (by rw [HLO.out]; exact Nat.le_refl _)]
        rw [HE.out] at HO
        go_wp2
        go_ret
        rw [HX.out]
        obtain ⟨r1, r2, r3⟩ := ow_row HO.out
        obtain rfl : no = n + 1 := by omega
        exact ⟨A0, c0, by rw [HLO.out]; rfl, by rw [HLO.out]; exact r2, r3, r1, HB.out⟩
end Go.Proofs.Ytkpblieanejmeaa
