/-
  AnywhereForgets: for every input the law returns true, and its arguments read as before. No condition.
-/
import Derived.Test.YtkoojoogddndnaaRows
import Derived.Test.YtkoojoogddndnaaLift
import Derived.Test.YtkoojoogddndnaaBo0
import Derived.Test.YtkoojoogddndnaaBo4
import Derived.Test.YtkoojoogddndnaaBs0
import Derived.Test.YtkoojoogddndnaaPg7
import Derived.Test.YtkoojoogddndnaaBa9
import Derived.BigQuiet
import Derived.Deep.DeepCutAuto
namespace Go.Proofs.Ytkoojoogddndnaa.LForgets
open Go.ChangeShapes Go.WideShapes Go.ChangeAt Go.RowKit Go.UtYtkoojoogddndnaa Go.Joins
theorem st_of (x : TA) (t : BT) (A : Option Addr) (c : Nat) (a : List Int) (xn yn n : Nat) (zv : Int) (u : World) (hT : TabAt u u.heap.size x t) (hs : t.cls.length ≤ 1000 ∧ t.act.length ≤ 1000) (hR : Row u u.heap.size A (ints (a ++ [(xn : Int), (yn : Int)]))) (hn : a.length + 2 = n) (hn' : n ≤ 100) (hc : n ≤ c) (hf : fitsL t (a ++ [(xn : Int), (yn : Int)])) (hv : validT t) (hst : runA t.ln 0 (a ++ [(xn : Int), (yn : Int)]) = zv) :
    Calls Try.prog 17 #[x.val t, .slice A n c, .int .i64 (n : Int)] u fun e w' => e = .returned (.int .i64 zv) ∧ Below u.heap.size u w' := by
  have hl : (a ++ [(xn : Int), (yn : Int)]).length = n := by simp [← hn]
  have h := state_any x t A c (a ++ [(xn : Int), (yn : Int)]) (n : Int) u hT hs hR (by rw [hl]; omega) (by rw [hl]; exact hc) zv (fun _ => by rw [Int.toNat_natCast, ← hl, List.take_length]; exact hst.symm) (fun h => absurd ⟨⟨by omega, by rw [hl]; omega⟩, hf, hv⟩ h)
  rw [hl] at h
  exact h
set_option maxRecDepth 100000 in
set_option maxHeartbeats 8000000 in
theorem walk (w : World) (A : Option Addr) (c : Nat) (l : List Nm) (A' : Option Addr) (c' : Nat) (rs : List RU) (hS : StrsAt w w.heap.size A l ∧ l.length ≤ c ∧ c ≤ maxLen) (hR : RusAt w w.heap.size A' c' rs) (Aa : Option Addr) (ca : Nat) (a : List Int) (hac : a.length ≤ ca) (ham : ca ≤ maxLen) (haR : Row w w.heap.size Aa (ints a)) (Ab : Option Addr) (cb : Nat) (b : List Int) (hbc : b.length ≤ cb) (hbm : cb ≤ maxLen) (hbR : Row w w.heap.size Ab (ints b)) :
    Calls Try.prog 9 #[.agg #[.slice A l.length c, .slice A' rs.length c'], .slice Aa a.length ca, .slice Ab b.length cb] w fun e w' => e = .returned (.bool true) ∧ Below w.heap.size w w' := by
  obtain ⟨i3, hi3, hw0, hw1, hw2⟩ := info_parts in_info31
  have CS := Lib.hid (fun (u : World) (hu : Below w.heap.size w u) => small28_any A A' c c' l rs u (hR.below hu).lt (by omega))
  have CC := Lib.hid (fun (u : World) (hu : Below w.heap.size w u) (hs : smRu l rs) => compile29_any A A' c c' l rs u (hS.1.below hu).lt hS.2.1 hS.2.2 (hR.below hu).lt hs)
  unfold RetC at CC
  have HRa := Lib.hid haR
  have HRb := Lib.hid hbR
  obtain ⟨nl, hnl⟩ : ∃ z, l.length = z := ⟨_, rfl⟩
  obtain ⟨m, hm⟩ : ∃ z, rs.length = z := ⟨_, rfl⟩
  obtain ⟨na, hna⟩ : ∃ z, a.length = z := ⟨_, rfl⟩
  obtain ⟨nb, hnb⟩ : ∃ z, b.length = z := ⟨_, rfl⟩
  have HNa := Lib.hid hna
  have HNb := Lib.hid hnb
  rw [hnl, hm] at CS CC
  rw [hna] at hac
  rw [hnb] at hbc
  rw [hnl, hm, hna, hnb]
  unfold maxLen at ham hbm
  clear hS hR haR hbR hnl hm hna hnb
  obtain ⟨w1, hw1', HB1, HK1⟩ := boxV w 56 #[.slice A nl c, .slice A' m c']
  obtain ⟨p0, p1, pl⟩ := blk2 HK1.out
  go_enter Try.func9, Try.ntmps9
  go_upto_region 1 with fail
  rw [← hw1']
  clear hw1'
  go_wp2_with fail
  refine (CS.out w1 HB1.out).mono ?_
  rintro e w2 ⟨v, rfl, hv, hb2⟩
  have HB2 := Lib.hid (HB1.out.trans (hb2.mono HB1.out.size))
  have HK2 := Lib.hid (HK1.out.after hb2)
  have HV := Lib.hid hv
  clear hb2 hv p0 p1 pl CS
  have CFa := few01_any Aa na ca 12
  have CFb := few01_any Ab nb cb 12
  have HCFa := Lib.hid CFa
  have HCFb := Lib.hid CFb
  clear CFa CFb
  cases v
  · go_wp2_with fail
    refine (alive_any _).mono ?_
    rintro e w9 ⟨rfl, hb9⟩
    have HB9 := Lib.hid (HB2.out.trans (hb9.mono HB2.out.size))
    clear hb9
    go_wp2
    go_ret
    exact ⟨rfl, HB9.out⟩
  · have HSM := Lib.hid (HV.out rfl)
    go_wp2_with fail
    refine (HCFa.out w2).mono ?_
    rintro e wq ⟨rfl, hwq⟩
    rw [hwq]
    clear hwq
    by_cases ha12 : na ≤ 12
    · have da : decide (na ≤ 12) = true := decide_eq_true ha12
      rw [da]
      clear da
      go_wp2_with fail
      refine (HCFb.out w2).mono ?_
      rintro e wq ⟨rfl, hwq⟩
      rw [hwq]
      clear hwq
      by_cases hb12 : nb ≤ 12
      · have db : decide (nb ≤ 12) = true := decide_eq_true hb12
        rw [db]
        clear db
        obtain ⟨p0, p1, pl⟩ := blk2 HK2.out
        go_wp2_with fail
        refine (CC.out w2 HB2.out HSM.out).mono ?_
        rintro e w3 ⟨x, t, er, kn, rfl, hT, ⟨ht6, hta6⟩, hb3⟩
        have HT := Lib.hid hT
        have HB3 := Lib.hid (HB2.out.trans (hb3.mono HB2.out.size))
        have hb3s := HB3.out.size
        clear hb3 hT p0 p1 pl CC
        unfold TA.val
        obtain ⟨w4, hw4, HB4', HK4⟩ := boxT w3 28 x t
        have HB4 : Hid (Below w.heap.size w w4) := Lib.hid (HB3.out.trans (HB4'.out.mono hb3s))
        have HT4 := Lib.hid (TabAt.lt (TabAt.below HT.out HB4'.out))
        go_upto_region 4 with fail
        rw [← hw4]
        clear hw4
        by_cases her : er = 0
        · subst her
          cases kn
          · go_wp2_with fail
            refine (alive_any _).mono ?_
            rintro e w9 ⟨rfl, hb9⟩
            have HB9 := Lib.hid (HB4.out.trans (hb9.mono HB4.out.size))
            clear hb9
            go_wp2
            go_ret
            exact ⟨rfl, HB9.out⟩
          · have hsm6 : t.cls.length ≤ 1000 ∧ t.act.length ≤ 1000 := ⟨by omega, by omega⟩
            obtain ⟨q0, q1, q2, q3, q4, q5, ql⟩ := tab6 HK4.out
            obtain ⟨w5, hw5, HB5, HO5⟩ : ∃ z, z = w4.alloc (.cells #[] 3) ∧ Hid (Below w4.heap.size w4 z) ∧ Hid (z.ownsRow w4.heap.size 3 1 (.slice (some ⟨w4.heap.size, 0, none⟩) 0 0) 0 []) := ⟨_, rfl, Lib.hid ((Below.refl _ _).alloc (Nat.le_refl _) _), Lib.hid (own_mt' w4 _ _ _ rfl)⟩
            have HRa5 := Lib.hid (HRa.out.below (HB4.out.trans (HB5.out.mono HB4.out.size)))
            go_wp2_with (first
              | (at_builtin
                 rw [← hw5]
                 refine wpList_append_row w5 rfl (.tmp 43) (.tmp 44) _ rfl w4.heap.size 3 i3 _ 1 8 Try.underlying23 hi3 hw0 hw1 hw2 rfl (by omega) (.slice (some ⟨w4.heap.size, 0, none⟩) 0 0) 0 [] rfl HO5.out _ _ na ca (ints a) rfl (by rw [ints_len, HNa.out]; omega) HRa5.out (ints_one _) (by simp only [maxLen]; omega) (by omega) HB5.out.size ?_
                 intro q6 w6 o6 g6 t6
                 rw [Nat.zero_add, List.nil_append] at o6
                 obtain ⟨A6, c6, rfl⟩ := ow_slice (m := na) o6 rfl
                 have HB6 : Hid (Below w4.heap.size w4 w6) := Lib.hid (HB5.out.grown g6 HB5.out.size (fun g hg => own_base HO5.out g hg))
                 have HO6 := Lib.hid o6
                 have HRb6 := Lib.hid (HRb.out.below (HB4.out.trans (HB6.out.mono HB4.out.size)))
                 clear o6 g6 t6 hw5)
              | (at_builtin
                 refine wpList_append_row w6 rfl (.tmp 45) (.tmp 46) _ rfl w4.heap.size 3 i3 _ 1 8 Try.underlying23 hi3 hw0 hw1 hw2 rfl (by omega) (.slice A6 na c6) na (ints a) rfl HO6.out _ _ nb cb (ints b) rfl (by rw [ints_len, HNb.out]; omega) HRb6.out (ints_one _) (by simp only [maxLen]; omega) (by omega) HB6.out.size ?_
                 intro q7 w7 o7 g7 t7
                 obtain ⟨A7, c7, rfl⟩ := ow_slice (m := na + nb) o7 rfl
                 have HB7 : Hid (Below w4.heap.size w4 w7) := Lib.hid (HB6.out.grown g7 HB6.out.size (fun g hg => own_base HO6.out g hg))
                 have HR7 : Hid (Row w7 w7.heap.size A7 (ints (a ++ b))) := Lib.hid (by
                   have := (ow_row o7).1
                   unfold ints at this ⊢
                   rw [List.map_append]
                   exact this)
                 clear o7 g7 t7))
            obtain ⟨nn, hnn⟩ : ∃ z, na + nb = z := ⟨_, rfl⟩
            have HNN := Lib.hid hnn
            have hnn24 : nn ≤ 24 := by omega
            clear q0 q1 q2 q3 q4 q5 ql
            try rw [hnn]
            go_loopw [49] (fun iv wr => ∃ k : Nat, k ≤ nn ∧ iv = .int .i64 (k : Int) ∧ Hid (∀ y ∈ (a ++ b).take k, 0 ≤ y ∧ y < (t.cls.length : Int)) ∧ Hid (Below w7.heap.size w7 wr)) (fun i _ => nn - (intOf i).toNat)
            case atStart => exact ⟨0, by omega, rfl, Lib.hid (by simp), Below.refl _ _⟩
            case round =>
              obtain ⟨k, hk, rfl, HY, HB⟩ := hrel
              have HB4r : Hid (Below w4.heap.size w4 wr) := Lib.hid (HB7.out.trans (HB.out.mono HB7.out.size))
              have HBr : Hid (Below w.heap.size w wr) := Lib.hid (HB4.out.trans (HB4r.out.mono HB4.out.size))
              have HKr := Lib.hid (HK4.out.after HB4r.out)
              obtain ⟨q0, q1, q2, q3, q4, q5, ql⟩ := tab6 HKr.out
              by_cases hkn : k < nn
              · obtain ⟨b0, o0, y, hA, hb0, hy, cy⟩ := (HR7.out.below HB.out).at_int (k := k) (by rw [List.length_append, HNa.out, HNb.out, HNN.out]; exact hkn)
                subst hA
                have hb0r : b0 < wr.heap.size := by have := HB.out.size; omega
                by_cases hy0 : y < 0
                · have d0 : decide (y < 0) = true := decide_eq_true hy0
                  go_wp2_with fail
                  refine (alive_any _).mono ?_
                  rintro e w9 ⟨rfl, hb9⟩
                  have HB9 := Lib.hid (HBr.out.trans (hb9.mono HBr.out.size))
                  clear hb9
                  go_wp2
                  go_ret
                  exact ⟨rfl, HB9.out⟩
                · have d0 : decide (y < 0) = false := decide_eq_false hy0
                  by_cases hy1 : (t.cls.length : Int) ≤ y
                  · have d1 : decide ((t.cls.length : Int) ≤ y) = true := decide_eq_true hy1
                    go_wp2_with fail
                    refine (alive_any _).mono ?_
                    rintro e w9 ⟨rfl, hb9⟩
                    have HB9 := Lib.hid (HBr.out.trans (hb9.mono HBr.out.size))
                    clear hb9
                    go_wp2
                    go_ret
                    exact ⟨rfl, HB9.out⟩
                  · have d1 : decide ((t.cls.length : Int) ≤ y) = false := decide_eq_false hy1
                    have HY' := Lib.hid (all_snoc (P := fun y => 0 ≤ y ∧ y < (t.cls.length : Int)) HY.out hy.out ⟨by omega, by omega⟩)
                    go_wp2
                    go_roundw
                    case rel => exact ⟨k + 1, by omega, by go_num, HY', HB⟩
                    case measure => simp [intOf] <;> omega
              · have HFT := Lib.hid (all_take HY.out (by rw [List.length_append, HNa.out, HNb.out, HNN.out]; omega))
                have HFa : Hid (fitsL t a) := Lib.hid (fun y hy => HFT.out y (by simp [hy]))
                have HFb : Hid (fitsL t b) := Lib.hid (fun y hy => HFT.out y (by simp [hy]))
                have HTr := Lib.hid (TabAt.lt (TabAt.below HT4.out HB4r.out))
                have CSY := sync_any x t wr HTr.out hsm6
                unfold RetT TA.val at CSY
                replace CSY := Lib.hid CSY
                go_wp2_with fail
                refine CSY.out.mono ?_
                rintro e w8 ⟨As, cs8, rfl, hs1, hs2, hs3, hb8⟩
                have hll := syncL_len (t := t)
                have HMEM := Lib.hid (fun (q : Int × Int × Int) (h : q ∈ syncL t) => syncL_mem h)
                obtain ⟨L, hL⟩ : ∃ L, syncL t = L := ⟨_, rfl⟩
                rw [hL] at hs1 hs3 HMEM ⊢
                obtain ⟨ns, hns⟩ : ∃ z, L.length = z := ⟨_, rfl⟩
                rw [hns] at hs1 ⊢
                have HNS := Lib.hid hns
                have HSY := Lib.hid hs3
                have HB8 : Hid (Below w4.heap.size w4 w8) := Lib.hid (HB4r.out.trans (hb8.mono HB4r.out.size))
                rw [hL, hns] at hll
                unfold maxLen at hs2
                clear hs3 hb8 hL hns q0 q1 q2 q3 q4 q5 ql
                go_wp2
                go_loopw [67] (fun iv wr => ∃ k : Nat, k ≤ ns ∧ iv = .int .i64 (k : Int) ∧ Hid (Below w8.heap.size w8 wr)) (fun i _ => ns - (intOf i).toNat)
                case atStart => exact ⟨0, by omega, rfl, Below.refl _ _⟩
                case round =>
                  obtain ⟨k, hk, rfl, HB⟩ := hrel
                  have HB4s : Hid (Below w4.heap.size w4 wr) := Lib.hid (HB8.out.trans (HB.out.mono HB8.out.size))
                  have HBs : Hid (Below w.heap.size w wr) := Lib.hid (HB4.out.trans (HB4s.out.mono HB4.out.size))
                  have HKs := Lib.hid (HK4.out.after HB4s.out)
                  by_cases hkn : k < ns
                  · obtain ⟨b1, o1, x1, y1, zq, hA1, hb1, hx1, e0, e1, e2⟩ := (HSY.out.below HB.out).at_spn (k := k) (by rw [HNS.out]; exact hkn)
                    subst hA1
                    obtain ⟨hval, xn, yn, hxn, hyn, heq, hsng⟩ := HMEM.out _ (List.mem_of_getElem? hx1.out)
                    injection heq with hq1 heq
                    injection heq with hq2 hq3
                    have HSTa := sync_state (l := a) hval hxn hyn HFa.out hsng
                    have HSTb := sync_state (l := b) hval hxn hyn HFb.out hsng
                    have hfx : ∀ q : List Int, fitsL t q → fitsL t (q ++ [(xn : Int), (yn : Int)]) := fun q hq y hy => by
                      rcases List.mem_append.1 hy with hy | hy
                      · exact hq y hy
                      · simp at hy
                        rcases hy with rfl | rfl <;> omega
                    have HFXa := Lib.hid (hfx a HFa.out)
                    have HFXb := Lib.hid (hfx b HFb.out)
                    obtain ⟨zv, hzv⟩ : ∃ z, aft t.ln 0 (xn : Int) (yn : Int) = z := ⟨_, rfl⟩
                    rw [hzv] at HSTa HSTb hq3
                    rw [hq1] at e0
                    rw [hq2] at e1
                    rw [hq3] at e2
                    clear hq1 hq2 hq3 hx1
                    have HVAL := Lib.hid hval
                    replace HSTa := Lib.hid HSTa
                    replace HSTb := Lib.hid HSTb
                    have hb1r : b1 < wr.heap.size := by have := HB.out.size; omega
                    clear hfx hzv hsng hval
                    obtain ⟨wt, hwt, HBT, HKXT⟩ := boxV wr 33 #[.int .i64 (xn : Int), .int .i64 (yn : Int), .int .i64 zv]
                    have HBWT : Hid (Below w.heap.size w wt) := Lib.hid (HBs.out.trans (HBT.out.mono HBs.out.size))
                    have HB4t : Hid (Below w4.heap.size w4 wt) := Lib.hid (HB4s.out.trans (HBT.out.mono HB4s.out.size))
                    have HB8t : Hid (Below w8.heap.size w8 wt) := Lib.hid (HB.out.trans (HBT.out.mono HB.out.size))
                    obtain ⟨gx, hgx'⟩ : ∃ z, z = wr.heap.size := ⟨_, rfl⟩
                    rw [← hgx'] at HKXT
                    have hgx : gx < wt.heap.size := HKXT.out.lt
                    go_upto_region 15 with fail
                    rw [← hwt, ← hgx']
                    clear hwt hgx'
                    go_cut [14] (fun v wx => ∃ (A5 : Option Addr) (c5 : Nat), v = .slice A5 (na + 2) c5 ∧ Hid (na + 2 ≤ c5 ∧ c5 ≤ maxLen) ∧ Hid (Row wx wx.heap.size A5 (ints (a ++ [(xn : Int), (yn : Int)]))) ∧ Hid (Below wt.heap.size wt wx))
                    case first =>
                      refine wp_region_tree (fun w' => Blk w' gx 33 #[.int .i64 (xn : Int), .int .i64 (yn : Int), .int .i64 zv]) (.float 1 (.float 3 (.float 4 (.float 5 (.float 6 (.two 0 (.two 2 (.one 7 (.one 8 (.float 9 .done))) 7 (.one 2 (.one 8 (.float 9 .done)))) 7 (.one 0 (.one 2 (.one 8 (.float 9 .done)))))))))) (by kernel_rfl) (by kernel_rfl) (fun _ _ d _ _ h => by cases d <;> exact h) HKXT.out.drew ?_
                      repeat (first
                        | (refine wpTr_fskip (by simp only [List.getElem?_toArray, List.getElem?_cons_zero, List.getElem?_cons_succ]; rfl) (by rfl) ?_
                           simp only [Act.put, List.setIfInBounds_toArray, List.set_cons_zero, List.set_cons_succ])
                        | (refine wpTr_float (v := ?_) (by simp only [List.getElem?_toArray, List.getElem?_cons_zero, List.getElem?_cons_succ]; rfl) (by rfl) (fun w' hS => ?_) ?_
                           rotate_left
                           ((have s0' := hS.cell 0; have s1' := hS.cell 1; have s2' := hS.cell 2; have sl' := hS.lt); go_simp; first | done | rfl)
                           simp only [Act.put, List.setIfInBounds_toArray, List.set_cons_zero, List.set_cons_succ]))
                      obtain ⟨zd, hzd, HS_zd⟩ : ∃ z, z = wt.drew ∧ Hid (Below wt.heap.size wt z) := ⟨_, rfl, Lib.hid (Below.refl _ _).drew⟩
                      rw [← hzd]
                      have HB_zd := HS_zd
                      have HKX_zd := Lib.hid (HKXT.out.after HS_zd.out)
                      clear hzd
                      refine wpTr_two ?_ ?_
                      · skip
                        refine stepTr_K (by simp only [List.getElem?_toArray, List.getElem?_cons_zero, List.getElem?_cons_succ]; rfl) (by rfl) (fun K hK => ?_)
                        go_simp
                        obtain ⟨z1, hw_z1, HS_z1, HE_z1⟩ : ∃ z, z = zd.alloc (.cells #[] 3) ∧ Hid (Below zd.heap.size zd z) ∧ Hid (z.ownsRow wt.heap.size 3 1 (.slice (some ⟨zd.heap.size, 0, none⟩) 0 0) 0 []) := ⟨_, rfl, Lib.hid ((Below.refl _ _).alloc (Nat.le_refl _) _), Lib.hid (ow_lower (own_mt' zd _ _ _ rfl) HB_zd.out.size)⟩
                        rw [← hw_z1]
                        clear hw_z1
                        have HKX_z1 := Lib.hid (HKX_zd.out.after HS_z1.out)
                        have HB_z1 := Lib.hid (HB_zd.out.trans (HS_z1.out.mono HB_zd.out.size))
                        refine hK.out _ _ HKX_z1.out ?_
                        clear hK K
                        try simp only [Act.put, List.setIfInBounds_toArray, List.set_cons_zero, List.set_cons_succ]
                        refine wpTr_two ?_ ?_
                        · skip
                          refine stepTr_K (by simp only [List.getElem?_toArray, List.getElem?_cons_zero, List.getElem?_cons_succ]; rfl) (by rfl) (fun K hK => ?_)
                          refine wp_append_row z1 (.tmp 71) (.tmp 72) _ rfl wt.heap.size 3 i3 _ 1 8 Try.underlying23 hi3 hw0 hw1 hw2 rfl (by omega) (.slice (some ⟨zd.heap.size, 0, none⟩) 0 0) 0 [] rfl HE_z1.out _ _ na ca (ints a) rfl (by rw [ints_len, HNa.out]; omega) (HRa.out.below (HBWT.out.trans (HB_z1.out.mono HBWT.out.size))) (ints_one _) (by simp only [maxLen]; omega) (by omega) HB_z1.out.size ?_
                          intro q_z2 z2 o_z2 g_z2 t_z2
                          rw [Nat.zero_add, List.nil_append] at o_z2
                          obtain ⟨Az2, cz2, rfl⟩ := ow_slice (m := na) o_z2 rfl
                          have HA_z2 := Lib.hid o_z2
                          have HB_z2 : Hid (Below wt.heap.size wt z2) := Lib.hid (HB_z1.out.grown g_z2 HB_z1.out.size (fun g hg => own_base HE_z1.out g hg))
                          have HKX_z2 := Lib.hid (HKXT.out.below HB_z2.out hgx)
                          clear o_z2 g_z2 t_z2
                          refine hK.out _ _ HKX_z2.out ?_
                          clear hK K
                          try simp only [Act.put, List.setIfInBounds_toArray, List.set_cons_zero, List.set_cons_succ]
                          refine wpTr_one ?_
                          refine stepTr_K (by simp only [List.getElem?_toArray, List.getElem?_cons_zero, List.getElem?_cons_succ]; rfl) (by rfl) (fun K hK => ?_)
                          go_simp
                          obtain ⟨z3, hw_z3, HS_z3, HL_z3⟩ : ∃ z, z = z2.alloc (.cells #[.int .i64 (xn : Int), .int .i64 (yn : Int)] 3) ∧ Hid (Below z2.heap.size z2 z) ∧ Hid (Row z z.heap.size (some ⟨z2.heap.size, 0, none⟩) (ints [(xn : Int), (yn : Int)])) := ⟨_, rfl, Lib.hid ((Below.refl _ _).alloc (Nat.le_refl _) _), Lib.hid ((row_lit z2 _ _).lt)⟩
                          rw [← hw_z3]
                          clear hw_z3
                          have HKX_z3 := Lib.hid (HKX_z2.out.after HS_z3.out)
                          have HB_z3 := Lib.hid (HB_z2.out.trans (HS_z3.out.mono HB_z2.out.size))
                          have HA_z3 := Lib.hid (ow_below HA_z2.out HS_z3.out)
                          refine hK.out _ _ HKX_z3.out ?_
                          clear hK K
                          try simp only [Act.put, List.setIfInBounds_toArray, List.set_cons_zero, List.set_cons_succ]
                          refine wpTr_one ?_
                          refine stepTr_K (by simp only [List.getElem?_toArray, List.getElem?_cons_zero, List.getElem?_cons_succ]; rfl) (by rfl) (fun K hK => ?_)
                          refine wp_append_row z3 (.tmp 73) (.tmp 78) _ rfl wt.heap.size 3 i3 _ 1 8 Try.underlying23 hi3 hw0 hw1 hw2 rfl (by omega) (.slice Az2 na cz2) na (ints a) rfl HA_z3.out _ _ 2 2 (ints [(xn : Int), (yn : Int)]) rfl rfl HL_z3.out (ints_one _) (by simp only [maxLen]; omega) (by omega) HB_z3.out.size ?_
                          intro q_z4 z4 o_z4 g_z4 t_z4
                          obtain ⟨Az4, cz4, rfl⟩ := ow_slice (m := na + 2) o_z4 rfl
                          have HF_z4 := Lib.hid (ow_row o_z4)
                          have HF_z4 : Hid ((na + 2 ≤ cz4 ∧ cz4 ≤ maxLen) ∧ Row z4 z4.heap.size Az4 (ints (a ++ [(xn : Int), (yn : Int)]))) := Lib.hid ⟨HF_z4.out.2, by
                            have := HF_z4.out.1
                            unfold ints at this ⊢
                            rw [List.map_append]
                            exact this⟩
                          have HB_z4 : Hid (Below wt.heap.size wt z4) := Lib.hid (HB_z3.out.grown g_z4 HB_z3.out.size (fun g hg => own_base HA_z3.out g hg))
                          have HKX_z4 := Lib.hid (HKXT.out.below HB_z4.out hgx)
                          clear o_z4 g_z4 t_z4
                          refine hK.out _ _ HKX_z4.out ?_
                          clear hK K
                          try simp only [Act.put, List.setIfInBounds_toArray, List.set_cons_zero, List.set_cons_succ]
                          repeat (first
                            | (refine wpTr_fskip (by simp only [List.getElem?_toArray, List.getElem?_cons_zero, List.getElem?_cons_succ]; rfl) (by rfl) ?_
                               simp only [Act.put, List.setIfInBounds_toArray, List.set_cons_zero, List.set_cons_succ])
                            | (refine wpTr_float (v := ?_) (by simp only [List.getElem?_toArray, List.getElem?_cons_zero, List.getElem?_cons_succ]; rfl) (by rfl) (fun w' hS => ?_) ?_
                               rotate_left
                               ((skip); go_simp; first | done | rfl)
                               simp only [Act.put, List.setIfInBounds_toArray, List.set_cons_zero, List.set_cons_succ]))
                          refine wpTr_done ?_
                          go_wp2
                          go_meet
                          case rel => exact ⟨Az4, cz4, rfl, Lib.hid HF_z4.out.1, Lib.hid HF_z4.out.2, HB_z4⟩
                        · skip
                          refine stepTr_K (by simp only [List.getElem?_toArray, List.getElem?_cons_zero, List.getElem?_cons_succ]; rfl) (by rfl) (fun K hK => ?_)
                          go_simp
                          obtain ⟨z5, hw_z5, HS_z5, HL_z5⟩ : ∃ z, z = z1.alloc (.cells #[.int .i64 (xn : Int), .int .i64 (yn : Int)] 3) ∧ Hid (Below z1.heap.size z1 z) ∧ Hid (Row z z.heap.size (some ⟨z1.heap.size, 0, none⟩) (ints [(xn : Int), (yn : Int)])) := ⟨_, rfl, Lib.hid ((Below.refl _ _).alloc (Nat.le_refl _) _), Lib.hid ((row_lit z1 _ _).lt)⟩
                          rw [← hw_z5]
                          clear hw_z5
                          have HKX_z5 := Lib.hid (HKX_z1.out.after HS_z5.out)
                          have HB_z5 := Lib.hid (HB_z1.out.trans (HS_z5.out.mono HB_z1.out.size))
                          have HE_z5 := Lib.hid (ow_below HE_z1.out HS_z5.out)
                          refine hK.out _ _ HKX_z5.out ?_
                          clear hK K
                          try simp only [Act.put, List.setIfInBounds_toArray, List.set_cons_zero, List.set_cons_succ]
                          have hne_z5 : zd.heap.size ≠ z1.heap.size := by have := (own_ltP HE_z1.out zd.heap.size rfl).1; omega
                          refine wpTr_one ?_
                          refine stepTr_K (by simp only [List.getElem?_toArray, List.getElem?_cons_zero, List.getElem?_cons_succ]; rfl) (by rfl) (fun K hK => ?_)
                          refine wp_append_row z5 (.tmp 71) (.tmp 72) _ rfl wt.heap.size 3 i3 _ 1 8 Try.underlying23 hi3 hw0 hw1 hw2 rfl (by omega) (.slice (some ⟨zd.heap.size, 0, none⟩) 0 0) 0 [] rfl HE_z5.out _ _ na ca (ints a) rfl (by rw [ints_len, HNa.out]; omega) (HRa.out.below (HBWT.out.trans (HB_z5.out.mono HBWT.out.size))) (ints_one _) (by simp only [maxLen]; omega) (by omega) HB_z5.out.size ?_
                          intro q_z6 z6 o_z6 g_z6 t_z6
                          rw [Nat.zero_add, List.nil_append] at o_z6
                          obtain ⟨Az6, cz6, rfl⟩ := ow_slice (m := na) o_z6 rfl
                          have HA_z6 := Lib.hid o_z6
                          have HB_z6 : Hid (Below wt.heap.size wt z6) := Lib.hid (HB_z5.out.grown g_z6 HB_z5.out.size (fun g hg => own_base HE_z5.out g hg))
                          have HKX_z6 := Lib.hid (HKXT.out.below HB_z6.out hgx)
                          have HL_z6 : Hid (Row z6 z6.heap.size (some ⟨z1.heap.size, 0, none⟩) (ints [(xn : Int), (yn : Int)])) := Lib.hid (Row.lt (fun hne => by
                            obtain ⟨b, o, e, hb, hc⟩ := HL_z5.out hne
                            injection e with e
                            injection e with ea eb
                            subst ea eb
                            refine ⟨_, _, rfl, hb, fun k v hk => (World.cell?_of_block (g_z6.block _ hb (fun e => ?_))).trans (hc k v hk)⟩
                            simp [Value.ownBlock] at e
                            have h1 := hne_z5
                            omega))
                          clear o_z6 g_z6 t_z6
                          refine hK.out _ _ HKX_z6.out ?_
                          clear hK K
                          try simp only [Act.put, List.setIfInBounds_toArray, List.set_cons_zero, List.set_cons_succ]
                          refine wpTr_one ?_
                          refine stepTr_K (by simp only [List.getElem?_toArray, List.getElem?_cons_zero, List.getElem?_cons_succ]; rfl) (by rfl) (fun K hK => ?_)
                          refine wp_append_row z6 (.tmp 73) (.tmp 78) _ rfl wt.heap.size 3 i3 _ 1 8 Try.underlying23 hi3 hw0 hw1 hw2 rfl (by omega) (.slice Az6 na cz6) na (ints a) rfl HA_z6.out _ _ 2 2 (ints [(xn : Int), (yn : Int)]) rfl rfl HL_z6.out (ints_one _) (by simp only [maxLen]; omega) (by omega) HB_z6.out.size ?_
                          intro q_z7 z7 o_z7 g_z7 t_z7
                          obtain ⟨Az7, cz7, rfl⟩ := ow_slice (m := na + 2) o_z7 rfl
                          have HF_z7 := Lib.hid (ow_row o_z7)
                          have HF_z7 : Hid ((na + 2 ≤ cz7 ∧ cz7 ≤ maxLen) ∧ Row z7 z7.heap.size Az7 (ints (a ++ [(xn : Int), (yn : Int)]))) := Lib.hid ⟨HF_z7.out.2, by
                            have := HF_z7.out.1
                            unfold ints at this ⊢
                            rw [List.map_append]
                            exact this⟩
                          have HB_z7 : Hid (Below wt.heap.size wt z7) := Lib.hid (HB_z6.out.grown g_z7 HB_z6.out.size (fun g hg => own_base HA_z6.out g hg))
                          have HKX_z7 := Lib.hid (HKXT.out.below HB_z7.out hgx)
                          clear o_z7 g_z7 t_z7
                          refine hK.out _ _ HKX_z7.out ?_
                          clear hK K
                          try simp only [Act.put, List.setIfInBounds_toArray, List.set_cons_zero, List.set_cons_succ]
                          repeat (first
                            | (refine wpTr_fskip (by simp only [List.getElem?_toArray, List.getElem?_cons_zero, List.getElem?_cons_succ]; rfl) (by rfl) ?_
                               simp only [Act.put, List.setIfInBounds_toArray, List.set_cons_zero, List.set_cons_succ])
                            | (refine wpTr_float (v := ?_) (by simp only [List.getElem?_toArray, List.getElem?_cons_zero, List.getElem?_cons_succ]; rfl) (by rfl) (fun w' hS => ?_) ?_
                               rotate_left
                               ((skip); go_simp; first | done | rfl)
                               simp only [Act.put, List.setIfInBounds_toArray, List.set_cons_zero, List.set_cons_succ]))
                          refine wpTr_done ?_
                          go_wp2
                          go_meet
                          case rel => exact ⟨Az7, cz7, rfl, Lib.hid HF_z7.out.1, Lib.hid HF_z7.out.2, HB_z7⟩
                      · skip
                        refine stepTr_K (by simp only [List.getElem?_toArray, List.getElem?_cons_zero, List.getElem?_cons_succ]; rfl) (by rfl) (fun K hK => ?_)
                        go_simp
                        obtain ⟨z8, hw_z8, HS_z8, HL_z8⟩ : ∃ z, z = zd.alloc (.cells #[.int .i64 (xn : Int), .int .i64 (yn : Int)] 3) ∧ Hid (Below zd.heap.size zd z) ∧ Hid (Row z z.heap.size (some ⟨zd.heap.size, 0, none⟩) (ints [(xn : Int), (yn : Int)])) := ⟨_, rfl, Lib.hid ((Below.refl _ _).alloc (Nat.le_refl _) _), Lib.hid ((row_lit zd _ _).lt)⟩
                        rw [← hw_z8]
                        clear hw_z8
                        have HKX_z8 := Lib.hid (HKX_zd.out.after HS_z8.out)
                        have HB_z8 := Lib.hid (HB_zd.out.trans (HS_z8.out.mono HB_zd.out.size))
                        refine hK.out _ _ HKX_z8.out ?_
                        clear hK K
                        try simp only [Act.put, List.setIfInBounds_toArray, List.set_cons_zero, List.set_cons_succ]
                        have hlt_z8 : zd.heap.size < z8.heap.size := by
                          obtain ⟨b, o, e, hb, _⟩ := HL_z8.out (by simp [ints])
                          injection e with e
                          injection e with e1 e2
                          subst e1
                          exact hb
                        refine wpTr_one ?_
                        refine stepTr_K (by simp only [List.getElem?_toArray, List.getElem?_cons_zero, List.getElem?_cons_succ]; rfl) (by rfl) (fun K hK => ?_)
                        go_simp
                        obtain ⟨z9, hw_z9, HS_z9, HE_z9⟩ : ∃ z, z = z8.alloc (.cells #[] 3) ∧ Hid (Below z8.heap.size z8 z) ∧ Hid (z.ownsRow wt.heap.size 3 1 (.slice (some ⟨z8.heap.size, 0, none⟩) 0 0) 0 []) := ⟨_, rfl, Lib.hid ((Below.refl _ _).alloc (Nat.le_refl _) _), Lib.hid (ow_lower (own_mt' z8 _ _ _ rfl) HB_z8.out.size)⟩
                        rw [← hw_z9]
                        clear hw_z9
                        have HKX_z9 := Lib.hid (HKX_z8.out.after HS_z9.out)
                        have HB_z9 := Lib.hid (HB_z8.out.trans (HS_z9.out.mono HB_z8.out.size))
                        have HL_z9 := Lib.hid (HL_z8.out.below HS_z9.out).lt
                        refine hK.out _ _ HKX_z9.out ?_
                        clear hK K
                        try simp only [Act.put, List.setIfInBounds_toArray, List.set_cons_zero, List.set_cons_succ]
                        have hne_z9 : z8.heap.size ≠ zd.heap.size := by have := hlt_z8; omega
                        refine wpTr_one ?_
                        refine stepTr_K (by simp only [List.getElem?_toArray, List.getElem?_cons_zero, List.getElem?_cons_succ]; rfl) (by rfl) (fun K hK => ?_)
                        refine wp_append_row z9 (.tmp 71) (.tmp 72) _ rfl wt.heap.size 3 i3 _ 1 8 Try.underlying23 hi3 hw0 hw1 hw2 rfl (by omega) (.slice (some ⟨z8.heap.size, 0, none⟩) 0 0) 0 [] rfl HE_z9.out _ _ na ca (ints a) rfl (by rw [ints_len, HNa.out]; omega) (HRa.out.below (HBWT.out.trans (HB_z9.out.mono HBWT.out.size))) (ints_one _) (by simp only [maxLen]; omega) (by omega) HB_z9.out.size ?_
                        intro q_z10 z10 o_z10 g_z10 t_z10
                        rw [Nat.zero_add, List.nil_append] at o_z10
                        obtain ⟨Az10, cz10, rfl⟩ := ow_slice (m := na) o_z10 rfl
                        have HA_z10 := Lib.hid o_z10
                        have HB_z10 : Hid (Below wt.heap.size wt z10) := Lib.hid (HB_z9.out.grown g_z10 HB_z9.out.size (fun g hg => own_base HE_z9.out g hg))
                        have HKX_z10 := Lib.hid (HKXT.out.below HB_z10.out hgx)
                        have HL_z10 : Hid (Row z10 z10.heap.size (some ⟨zd.heap.size, 0, none⟩) (ints [(xn : Int), (yn : Int)])) := Lib.hid (Row.lt (fun hne => by
                          obtain ⟨b, o, e, hb, hc⟩ := HL_z9.out hne
                          injection e with e
                          injection e with ea eb
                          subst ea eb
                          refine ⟨_, _, rfl, hb, fun k v hk => (World.cell?_of_block (g_z10.block _ hb (fun e => ?_))).trans (hc k v hk)⟩
                          simp [Value.ownBlock] at e
                          have h1 := hne_z9
                          omega))
                        clear o_z10 g_z10 t_z10
                        refine hK.out _ _ HKX_z10.out ?_
                        clear hK K
                        try simp only [Act.put, List.setIfInBounds_toArray, List.set_cons_zero, List.set_cons_succ]
                        refine wpTr_one ?_
                        refine stepTr_K (by simp only [List.getElem?_toArray, List.getElem?_cons_zero, List.getElem?_cons_succ]; rfl) (by rfl) (fun K hK => ?_)
                        refine wp_append_row z10 (.tmp 73) (.tmp 78) _ rfl wt.heap.size 3 i3 _ 1 8 Try.underlying23 hi3 hw0 hw1 hw2 rfl (by omega) (.slice Az10 na cz10) na (ints a) rfl HA_z10.out _ _ 2 2 (ints [(xn : Int), (yn : Int)]) rfl rfl HL_z10.out (ints_one _) (by simp only [maxLen]; omega) (by omega) HB_z10.out.size ?_
                        intro q_z11 z11 o_z11 g_z11 t_z11
                        obtain ⟨Az11, cz11, rfl⟩ := ow_slice (m := na + 2) o_z11 rfl
                        have HF_z11 := Lib.hid (ow_row o_z11)
                        have HF_z11 : Hid ((na + 2 ≤ cz11 ∧ cz11 ≤ maxLen) ∧ Row z11 z11.heap.size Az11 (ints (a ++ [(xn : Int), (yn : Int)]))) := Lib.hid ⟨HF_z11.out.2, by
                          have := HF_z11.out.1
                          unfold ints at this ⊢
                          rw [List.map_append]
                          exact this⟩
                        have HB_z11 : Hid (Below wt.heap.size wt z11) := Lib.hid (HB_z10.out.grown g_z11 HB_z10.out.size (fun g hg => own_base HA_z10.out g hg))
                        have HKX_z11 := Lib.hid (HKXT.out.below HB_z11.out hgx)
                        clear o_z11 g_z11 t_z11
                        refine hK.out _ _ HKX_z11.out ?_
                        clear hK K
                        try simp only [Act.put, List.setIfInBounds_toArray, List.set_cons_zero, List.set_cons_succ]
                        repeat (first
                          | (refine wpTr_fskip (by simp only [List.getElem?_toArray, List.getElem?_cons_zero, List.getElem?_cons_succ]; rfl) (by rfl) ?_
                             simp only [Act.put, List.setIfInBounds_toArray, List.set_cons_zero, List.set_cons_succ])
                          | (refine wpTr_float (v := ?_) (by simp only [List.getElem?_toArray, List.getElem?_cons_zero, List.getElem?_cons_succ]; rfl) (by rfl) (fun w' hS => ?_) ?_
                             rotate_left
                             ((skip); go_simp; first | done | rfl)
                             simp only [Act.put, List.setIfInBounds_toArray, List.set_cons_zero, List.set_cons_succ]))
                        refine wpTr_done ?_
                        go_wp2
                        go_meet
                        case rel => exact ⟨Az11, cz11, rfl, Lib.hid HF_z11.out.1, Lib.hid HF_z11.out.2, HB_z11⟩
                    case rest =>
                      obtain ⟨A8, c8, hv8, HC8, HR8, HB9⟩ := hcut
                      subst hv8
                      obtain ⟨wu, hwu⟩ : ∃ z, z = wc := ⟨_, rfl⟩
                      subst hwu
                      have HKXU := Lib.hid (HKXT.out.after HB9.out)
                      have hgx : gx < wu.heap.size := HKXU.out.lt
                      have HBWU : Hid (Below w.heap.size w wu) := Lib.hid (HBWT.out.trans (HB9.out.mono HBWT.out.size))
                      go_upto_region 16 with fail
                      go_cut [15] (fun v wx => ∃ (A5 : Option Addr) (c5 : Nat), v = .slice A5 (nb + 2) c5 ∧ Hid (nb + 2 ≤ c5 ∧ c5 ≤ maxLen) ∧ Hid (Row wx wx.heap.size A5 (ints (b ++ [(xn : Int), (yn : Int)]))) ∧ Hid (Below wu.heap.size wu wx))
                      case first =>
                        refine wp_region_tree (fun w' => Blk w' gx 33 #[.int .i64 (xn : Int), .int .i64 (yn : Int), .int .i64 zv]) (.float 1 (.float 3 (.float 4 (.float 5 (.float 6 (.two 0 (.two 2 (.one 7 (.one 8 (.float 9 .done))) 7 (.one 2 (.one 8 (.float 9 .done)))) 7 (.one 0 (.one 2 (.one 8 (.float 9 .done)))))))))) (by kernel_rfl) (by kernel_rfl) (fun _ _ d _ _ h => by cases d <;> exact h) HKXU.out.drew ?_
                        repeat (first
                          | (refine wpTr_fskip (by simp only [List.getElem?_toArray, List.getElem?_cons_zero, List.getElem?_cons_succ]; rfl) (by rfl) ?_
                             simp only [Act.put, List.setIfInBounds_toArray, List.set_cons_zero, List.set_cons_succ])
                          | (refine wpTr_float (v := ?_) (by simp only [List.getElem?_toArray, List.getElem?_cons_zero, List.getElem?_cons_succ]; rfl) (by rfl) (fun w' hS => ?_) ?_
                             rotate_left
                             ((have s0' := hS.cell 0; have s1' := hS.cell 1; have s2' := hS.cell 2; have sl' := hS.lt); go_simp; first | done | rfl)
                             simp only [Act.put, List.setIfInBounds_toArray, List.set_cons_zero, List.set_cons_succ]))
                        obtain ⟨zd, hzd, HS_zd⟩ : ∃ z, z = wu.drew ∧ Hid (Below wu.heap.size wu z) := ⟨_, rfl, Lib.hid (Below.refl _ _).drew⟩
                        rw [← hzd]
                        have HB_zd := HS_zd
                        have HKX_zd := Lib.hid (HKXU.out.after HS_zd.out)
                        clear hzd
                        refine wpTr_two ?_ ?_
                        · skip
                          refine stepTr_K (by simp only [List.getElem?_toArray, List.getElem?_cons_zero, List.getElem?_cons_succ]; rfl) (by rfl) (fun K hK => ?_)
                          go_simp
                          obtain ⟨z1, hw_z1, HS_z1, HE_z1⟩ : ∃ z, z = zd.alloc (.cells #[] 3) ∧ Hid (Below zd.heap.size zd z) ∧ Hid (z.ownsRow wu.heap.size 3 1 (.slice (some ⟨zd.heap.size, 0, none⟩) 0 0) 0 []) := ⟨_, rfl, Lib.hid ((Below.refl _ _).alloc (Nat.le_refl _) _), Lib.hid (ow_lower (own_mt' zd _ _ _ rfl) HB_zd.out.size)⟩
                          rw [← hw_z1]
                          clear hw_z1
                          have HKX_z1 := Lib.hid (HKX_zd.out.after HS_z1.out)
                          have HB_z1 := Lib.hid (HB_zd.out.trans (HS_z1.out.mono HB_zd.out.size))
                          refine hK.out _ _ HKX_z1.out ?_
                          clear hK K
                          try simp only [Act.put, List.setIfInBounds_toArray, List.set_cons_zero, List.set_cons_succ]
                          refine wpTr_two ?_ ?_
                          · skip
                            refine stepTr_K (by simp only [List.getElem?_toArray, List.getElem?_cons_zero, List.getElem?_cons_succ]; rfl) (by rfl) (fun K hK => ?_)
                            refine wp_append_row z1 (.tmp 80) (.tmp 81) _ rfl wu.heap.size 3 i3 _ 1 8 Try.underlying23 hi3 hw0 hw1 hw2 rfl (by omega) (.slice (some ⟨zd.heap.size, 0, none⟩) 0 0) 0 [] rfl HE_z1.out _ _ nb cb (ints b) rfl (by rw [ints_len, HNb.out]; omega) (HRb.out.below (HBWU.out.trans (HB_z1.out.mono HBWU.out.size))) (ints_one _) (by simp only [maxLen]; omega) (by omega) HB_z1.out.size ?_
                            intro q_z2 z2 o_z2 g_z2 t_z2
                            rw [Nat.zero_add, List.nil_append] at o_z2
                            obtain ⟨Az2, cz2, rfl⟩ := ow_slice (m := nb) o_z2 rfl
                            have HA_z2 := Lib.hid o_z2
                            have HB_z2 : Hid (Below wu.heap.size wu z2) := Lib.hid (HB_z1.out.grown g_z2 HB_z1.out.size (fun g hg => own_base HE_z1.out g hg))
                            have HKX_z2 := Lib.hid (HKXU.out.below HB_z2.out hgx)
                            clear o_z2 g_z2 t_z2
                            refine hK.out _ _ HKX_z2.out ?_
                            clear hK K
                            try simp only [Act.put, List.setIfInBounds_toArray, List.set_cons_zero, List.set_cons_succ]
                            refine wpTr_one ?_
                            refine stepTr_K (by simp only [List.getElem?_toArray, List.getElem?_cons_zero, List.getElem?_cons_succ]; rfl) (by rfl) (fun K hK => ?_)
                            go_simp
                            obtain ⟨z3, hw_z3, HS_z3, HL_z3⟩ : ∃ z, z = z2.alloc (.cells #[.int .i64 (xn : Int), .int .i64 (yn : Int)] 3) ∧ Hid (Below z2.heap.size z2 z) ∧ Hid (Row z z.heap.size (some ⟨z2.heap.size, 0, none⟩) (ints [(xn : Int), (yn : Int)])) := ⟨_, rfl, Lib.hid ((Below.refl _ _).alloc (Nat.le_refl _) _), Lib.hid ((row_lit z2 _ _).lt)⟩
                            rw [← hw_z3]
                            clear hw_z3
                            have HKX_z3 := Lib.hid (HKX_z2.out.after HS_z3.out)
                            have HB_z3 := Lib.hid (HB_z2.out.trans (HS_z3.out.mono HB_z2.out.size))
                            have HA_z3 := Lib.hid (ow_below HA_z2.out HS_z3.out)
                            refine hK.out _ _ HKX_z3.out ?_
                            clear hK K
                            try simp only [Act.put, List.setIfInBounds_toArray, List.set_cons_zero, List.set_cons_succ]
                            refine wpTr_one ?_
                            refine stepTr_K (by simp only [List.getElem?_toArray, List.getElem?_cons_zero, List.getElem?_cons_succ]; rfl) (by rfl) (fun K hK => ?_)
                            refine wp_append_row z3 (.tmp 82) (.tmp 87) _ rfl wu.heap.size 3 i3 _ 1 8 Try.underlying23 hi3 hw0 hw1 hw2 rfl (by omega) (.slice Az2 nb cz2) nb (ints b) rfl HA_z3.out _ _ 2 2 (ints [(xn : Int), (yn : Int)]) rfl rfl HL_z3.out (ints_one _) (by simp only [maxLen]; omega) (by omega) HB_z3.out.size ?_
                            intro q_z4 z4 o_z4 g_z4 t_z4
                            obtain ⟨Az4, cz4, rfl⟩ := ow_slice (m := nb + 2) o_z4 rfl
                            have HF_z4 := Lib.hid (ow_row o_z4)
                            have HF_z4 : Hid ((nb + 2 ≤ cz4 ∧ cz4 ≤ maxLen) ∧ Row z4 z4.heap.size Az4 (ints (b ++ [(xn : Int), (yn : Int)]))) := Lib.hid ⟨HF_z4.out.2, by
                              have := HF_z4.out.1
                              unfold ints at this ⊢
                              rw [List.map_append]
                              exact this⟩
                            have HB_z4 : Hid (Below wu.heap.size wu z4) := Lib.hid (HB_z3.out.grown g_z4 HB_z3.out.size (fun g hg => own_base HA_z3.out g hg))
                            have HKX_z4 := Lib.hid (HKXU.out.below HB_z4.out hgx)
                            clear o_z4 g_z4 t_z4
                            refine hK.out _ _ HKX_z4.out ?_
                            clear hK K
                            try simp only [Act.put, List.setIfInBounds_toArray, List.set_cons_zero, List.set_cons_succ]
                            repeat (first
                              | (refine wpTr_fskip (by simp only [List.getElem?_toArray, List.getElem?_cons_zero, List.getElem?_cons_succ]; rfl) (by rfl) ?_
                                 simp only [Act.put, List.setIfInBounds_toArray, List.set_cons_zero, List.set_cons_succ])
                              | (refine wpTr_float (v := ?_) (by simp only [List.getElem?_toArray, List.getElem?_cons_zero, List.getElem?_cons_succ]; rfl) (by rfl) (fun w' hS => ?_) ?_
                                 rotate_left
                                 ((skip); go_simp; first | done | rfl)
                                 simp only [Act.put, List.setIfInBounds_toArray, List.set_cons_zero, List.set_cons_succ]))
                            refine wpTr_done ?_
                            go_wp2
                            go_meet
                            case rel => exact ⟨Az4, cz4, rfl, Lib.hid HF_z4.out.1, Lib.hid HF_z4.out.2, HB_z4⟩
                          · skip
                            refine stepTr_K (by simp only [List.getElem?_toArray, List.getElem?_cons_zero, List.getElem?_cons_succ]; rfl) (by rfl) (fun K hK => ?_)
                            go_simp
                            obtain ⟨z5, hw_z5, HS_z5, HL_z5⟩ : ∃ z, z = z1.alloc (.cells #[.int .i64 (xn : Int), .int .i64 (yn : Int)] 3) ∧ Hid (Below z1.heap.size z1 z) ∧ Hid (Row z z.heap.size (some ⟨z1.heap.size, 0, none⟩) (ints [(xn : Int), (yn : Int)])) := ⟨_, rfl, Lib.hid ((Below.refl _ _).alloc (Nat.le_refl _) _), Lib.hid ((row_lit z1 _ _).lt)⟩
                            rw [← hw_z5]
                            clear hw_z5
                            have HKX_z5 := Lib.hid (HKX_z1.out.after HS_z5.out)
                            have HB_z5 := Lib.hid (HB_z1.out.trans (HS_z5.out.mono HB_z1.out.size))
                            have HE_z5 := Lib.hid (ow_below HE_z1.out HS_z5.out)
                            refine hK.out _ _ HKX_z5.out ?_
                            clear hK K
                            try simp only [Act.put, List.setIfInBounds_toArray, List.set_cons_zero, List.set_cons_succ]
                            have hne_z5 : zd.heap.size ≠ z1.heap.size := by have := (own_ltP HE_z1.out zd.heap.size rfl).1; omega
                            refine wpTr_one ?_
                            refine stepTr_K (by simp only [List.getElem?_toArray, List.getElem?_cons_zero, List.getElem?_cons_succ]; rfl) (by rfl) (fun K hK => ?_)
                            refine wp_append_row z5 (.tmp 80) (.tmp 81) _ rfl wu.heap.size 3 i3 _ 1 8 Try.underlying23 hi3 hw0 hw1 hw2 rfl (by omega) (.slice (some ⟨zd.heap.size, 0, none⟩) 0 0) 0 [] rfl HE_z5.out _ _ nb cb (ints b) rfl (by rw [ints_len, HNb.out]; omega) (HRb.out.below (HBWU.out.trans (HB_z5.out.mono HBWU.out.size))) (ints_one _) (by simp only [maxLen]; omega) (by omega) HB_z5.out.size ?_
                            intro q_z6 z6 o_z6 g_z6 t_z6
                            rw [Nat.zero_add, List.nil_append] at o_z6
                            obtain ⟨Az6, cz6, rfl⟩ := ow_slice (m := nb) o_z6 rfl
                            have HA_z6 := Lib.hid o_z6
                            have HB_z6 : Hid (Below wu.heap.size wu z6) := Lib.hid (HB_z5.out.grown g_z6 HB_z5.out.size (fun g hg => own_base HE_z5.out g hg))
                            have HKX_z6 := Lib.hid (HKXU.out.below HB_z6.out hgx)
                            have HL_z6 : Hid (Row z6 z6.heap.size (some ⟨z1.heap.size, 0, none⟩) (ints [(xn : Int), (yn : Int)])) := Lib.hid (Row.lt (fun hne => by
                              obtain ⟨b, o, e, hb, hc⟩ := HL_z5.out hne
                              injection e with e
                              injection e with ea eb
                              subst ea eb
                              refine ⟨_, _, rfl, hb, fun k v hk => (World.cell?_of_block (g_z6.block _ hb (fun e => ?_))).trans (hc k v hk)⟩
                              simp [Value.ownBlock] at e
                              have h1 := hne_z5
                              omega))
                            clear o_z6 g_z6 t_z6
                            refine hK.out _ _ HKX_z6.out ?_
                            clear hK K
                            try simp only [Act.put, List.setIfInBounds_toArray, List.set_cons_zero, List.set_cons_succ]
                            refine wpTr_one ?_
                            refine stepTr_K (by simp only [List.getElem?_toArray, List.getElem?_cons_zero, List.getElem?_cons_succ]; rfl) (by rfl) (fun K hK => ?_)
                            refine wp_append_row z6 (.tmp 82) (.tmp 87) _ rfl wu.heap.size 3 i3 _ 1 8 Try.underlying23 hi3 hw0 hw1 hw2 rfl (by omega) (.slice Az6 nb cz6) nb (ints b) rfl HA_z6.out _ _ 2 2 (ints [(xn : Int), (yn : Int)]) rfl rfl HL_z6.out (ints_one _) (by simp only [maxLen]; omega) (by omega) HB_z6.out.size ?_
                            intro q_z7 z7 o_z7 g_z7 t_z7
                            obtain ⟨Az7, cz7, rfl⟩ := ow_slice (m := nb + 2) o_z7 rfl
                            have HF_z7 := Lib.hid (ow_row o_z7)
                            have HF_z7 : Hid ((nb + 2 ≤ cz7 ∧ cz7 ≤ maxLen) ∧ Row z7 z7.heap.size Az7 (ints (b ++ [(xn : Int), (yn : Int)]))) := Lib.hid ⟨HF_z7.out.2, by
                              have := HF_z7.out.1
                              unfold ints at this ⊢
                              rw [List.map_append]
                              exact this⟩
                            have HB_z7 : Hid (Below wu.heap.size wu z7) := Lib.hid (HB_z6.out.grown g_z7 HB_z6.out.size (fun g hg => own_base HA_z6.out g hg))
                            have HKX_z7 := Lib.hid (HKXU.out.below HB_z7.out hgx)
                            clear o_z7 g_z7 t_z7
                            refine hK.out _ _ HKX_z7.out ?_
                            clear hK K
                            try simp only [Act.put, List.setIfInBounds_toArray, List.set_cons_zero, List.set_cons_succ]
                            repeat (first
                              | (refine wpTr_fskip (by simp only [List.getElem?_toArray, List.getElem?_cons_zero, List.getElem?_cons_succ]; rfl) (by rfl) ?_
                                 simp only [Act.put, List.setIfInBounds_toArray, List.set_cons_zero, List.set_cons_succ])
                              | (refine wpTr_float (v := ?_) (by simp only [List.getElem?_toArray, List.getElem?_cons_zero, List.getElem?_cons_succ]; rfl) (by rfl) (fun w' hS => ?_) ?_
                                 rotate_left
                                 ((skip); go_simp; first | done | rfl)
                                 simp only [Act.put, List.setIfInBounds_toArray, List.set_cons_zero, List.set_cons_succ]))
                            refine wpTr_done ?_
                            go_wp2
                            go_meet
                            case rel => exact ⟨Az7, cz7, rfl, Lib.hid HF_z7.out.1, Lib.hid HF_z7.out.2, HB_z7⟩
                        · skip
                          refine stepTr_K (by simp only [List.getElem?_toArray, List.getElem?_cons_zero, List.getElem?_cons_succ]; rfl) (by rfl) (fun K hK => ?_)
                          go_simp
                          obtain ⟨z8, hw_z8, HS_z8, HL_z8⟩ : ∃ z, z = zd.alloc (.cells #[.int .i64 (xn : Int), .int .i64 (yn : Int)] 3) ∧ Hid (Below zd.heap.size zd z) ∧ Hid (Row z z.heap.size (some ⟨zd.heap.size, 0, none⟩) (ints [(xn : Int), (yn : Int)])) := ⟨_, rfl, Lib.hid ((Below.refl _ _).alloc (Nat.le_refl _) _), Lib.hid ((row_lit zd _ _).lt)⟩
                          rw [← hw_z8]
                          clear hw_z8
                          have HKX_z8 := Lib.hid (HKX_zd.out.after HS_z8.out)
                          have HB_z8 := Lib.hid (HB_zd.out.trans (HS_z8.out.mono HB_zd.out.size))
                          refine hK.out _ _ HKX_z8.out ?_
                          clear hK K
                          try simp only [Act.put, List.setIfInBounds_toArray, List.set_cons_zero, List.set_cons_succ]
                          have hlt_z8 : zd.heap.size < z8.heap.size := by
                            obtain ⟨b, o, e, hb, _⟩ := HL_z8.out (by simp [ints])
                            injection e with e
                            injection e with e1 e2
                            subst e1
                            exact hb
                          refine wpTr_one ?_
                          refine stepTr_K (by simp only [List.getElem?_toArray, List.getElem?_cons_zero, List.getElem?_cons_succ]; rfl) (by rfl) (fun K hK => ?_)
                          go_simp
                          obtain ⟨z9, hw_z9, HS_z9, HE_z9⟩ : ∃ z, z = z8.alloc (.cells #[] 3) ∧ Hid (Below z8.heap.size z8 z) ∧ Hid (z.ownsRow wu.heap.size 3 1 (.slice (some ⟨z8.heap.size, 0, none⟩) 0 0) 0 []) := ⟨_, rfl, Lib.hid ((Below.refl _ _).alloc (Nat.le_refl _) _), Lib.hid (ow_lower (own_mt' z8 _ _ _ rfl) HB_z8.out.size)⟩
                          rw [← hw_z9]
                          clear hw_z9
                          have HKX_z9 := Lib.hid (HKX_z8.out.after HS_z9.out)
                          have HB_z9 := Lib.hid (HB_z8.out.trans (HS_z9.out.mono HB_z8.out.size))
                          have HL_z9 := Lib.hid (HL_z8.out.below HS_z9.out).lt
                          refine hK.out _ _ HKX_z9.out ?_
                          clear hK K
                          try simp only [Act.put, List.setIfInBounds_toArray, List.set_cons_zero, List.set_cons_succ]
                          have hne_z9 : z8.heap.size ≠ zd.heap.size := by have := hlt_z8; omega
                          refine wpTr_one ?_
                          refine stepTr_K (by simp only [List.getElem?_toArray, List.getElem?_cons_zero, List.getElem?_cons_succ]; rfl) (by rfl) (fun K hK => ?_)
                          refine wp_append_row z9 (.tmp 80) (.tmp 81) _ rfl wu.heap.size 3 i3 _ 1 8 Try.underlying23 hi3 hw0 hw1 hw2 rfl (by omega) (.slice (some ⟨z8.heap.size, 0, none⟩) 0 0) 0 [] rfl HE_z9.out _ _ nb cb (ints b) rfl (by rw [ints_len, HNb.out]; omega) (HRb.out.below (HBWU.out.trans (HB_z9.out.mono HBWU.out.size))) (ints_one _) (by simp only [maxLen]; omega) (by omega) HB_z9.out.size ?_
                          intro q_z10 z10 o_z10 g_z10 t_z10
                          rw [Nat.zero_add, List.nil_append] at o_z10
                          obtain ⟨Az10, cz10, rfl⟩ := ow_slice (m := nb) o_z10 rfl
                          have HA_z10 := Lib.hid o_z10
                          have HB_z10 : Hid (Below wu.heap.size wu z10) := Lib.hid (HB_z9.out.grown g_z10 HB_z9.out.size (fun g hg => own_base HE_z9.out g hg))
                          have HKX_z10 := Lib.hid (HKXU.out.below HB_z10.out hgx)
                          have HL_z10 : Hid (Row z10 z10.heap.size (some ⟨zd.heap.size, 0, none⟩) (ints [(xn : Int), (yn : Int)])) := Lib.hid (Row.lt (fun hne => by
                            obtain ⟨b, o, e, hb, hc⟩ := HL_z9.out hne
                            injection e with e
                            injection e with ea eb
                            subst ea eb
                            refine ⟨_, _, rfl, hb, fun k v hk => (World.cell?_of_block (g_z10.block _ hb (fun e => ?_))).trans (hc k v hk)⟩
                            simp [Value.ownBlock] at e
                            have h1 := hne_z9
                            omega))
                          clear o_z10 g_z10 t_z10
                          refine hK.out _ _ HKX_z10.out ?_
                          clear hK K
                          try simp only [Act.put, List.setIfInBounds_toArray, List.set_cons_zero, List.set_cons_succ]
                          refine wpTr_one ?_
                          refine stepTr_K (by simp only [List.getElem?_toArray, List.getElem?_cons_zero, List.getElem?_cons_succ]; rfl) (by rfl) (fun K hK => ?_)
                          refine wp_append_row z10 (.tmp 82) (.tmp 87) _ rfl wu.heap.size 3 i3 _ 1 8 Try.underlying23 hi3 hw0 hw1 hw2 rfl (by omega) (.slice Az10 nb cz10) nb (ints b) rfl HA_z10.out _ _ 2 2 (ints [(xn : Int), (yn : Int)]) rfl rfl HL_z10.out (ints_one _) (by simp only [maxLen]; omega) (by omega) HB_z10.out.size ?_
                          intro q_z11 z11 o_z11 g_z11 t_z11
                          obtain ⟨Az11, cz11, rfl⟩ := ow_slice (m := nb + 2) o_z11 rfl
                          have HF_z11 := Lib.hid (ow_row o_z11)
                          have HF_z11 : Hid ((nb + 2 ≤ cz11 ∧ cz11 ≤ maxLen) ∧ Row z11 z11.heap.size Az11 (ints (b ++ [(xn : Int), (yn : Int)]))) := Lib.hid ⟨HF_z11.out.2, by
                            have := HF_z11.out.1
                            unfold ints at this ⊢
                            rw [List.map_append]
                            exact this⟩
                          have HB_z11 : Hid (Below wu.heap.size wu z11) := Lib.hid (HB_z10.out.grown g_z11 HB_z10.out.size (fun g hg => own_base HA_z10.out g hg))
                          have HKX_z11 := Lib.hid (HKXU.out.below HB_z11.out hgx)
                          clear o_z11 g_z11 t_z11
                          refine hK.out _ _ HKX_z11.out ?_
                          clear hK K
                          try simp only [Act.put, List.setIfInBounds_toArray, List.set_cons_zero, List.set_cons_succ]
                          repeat (first
                            | (refine wpTr_fskip (by simp only [List.getElem?_toArray, List.getElem?_cons_zero, List.getElem?_cons_succ]; rfl) (by rfl) ?_
                               simp only [Act.put, List.setIfInBounds_toArray, List.set_cons_zero, List.set_cons_succ])
                            | (refine wpTr_float (v := ?_) (by simp only [List.getElem?_toArray, List.getElem?_cons_zero, List.getElem?_cons_succ]; rfl) (by rfl) (fun w' hS => ?_) ?_
                               rotate_left
                               ((skip); go_simp; first | done | rfl)
                               simp only [Act.put, List.setIfInBounds_toArray, List.set_cons_zero, List.set_cons_succ]))
                          refine wpTr_done ?_
                          go_wp2
                          go_meet
                          case rel => exact ⟨Az11, cz11, rfl, Lib.hid HF_z11.out.1, Lib.hid HF_z11.out.2, HB_z11⟩
                      case rest =>
                        obtain ⟨A9, c9, hv9, HC9, HR9, HB10⟩ := hcut
                        subst hv9
                        obtain ⟨wv, hwv⟩ : ∃ z, z = wc := ⟨_, rfl⟩
                        subst hwv
                        have HKXV := Lib.hid (HKXU.out.after HB10.out)
                        have HBuv : Hid (Below wt.heap.size wt wv) := Lib.hid (HB9.out.trans (HB10.out.mono HB9.out.size))
                        have HB4v : Hid (Below w4.heap.size w4 wv) := Lib.hid (HB4t.out.trans (HBuv.out.mono HB4t.out.size))
                        have HB8v : Hid (Below w8.heap.size w8 wv) := Lib.hid (HB8t.out.trans (HBuv.out.mono HB8t.out.size))
                        have HKV := Lib.hid (HK4.out.after HB4v.out)
                        have HR8v := Lib.hid (HR8.out.below HB10.out).lt
                        have HTv := Lib.hid (TabAt.lt (TabAt.below HT4.out HB4v.out))
                        obtain ⟨n8, hn8⟩ : ∃ z, na + 2 = z := ⟨_, rfl⟩
                        obtain ⟨n9, hn9⟩ : ∃ z, nb + 2 = z := ⟨_, rfl⟩
                        have CSa := fun (u : World) (hu : Below wv.heap.size wv u) => st_of x t A8 c8 a xn yn n8 zv u (TabAt.lt (TabAt.below HTv.out hu)) hsm6 (HR8v.out.below hu).lt (by rw [HNa.out]; exact hn8) (by omega) (by rw [← hn8]; exact HC8.out.1) HFXa.out HVAL.out HSTa.out
                        have CSb := fun (u : World) (hu : Below wv.heap.size wv u) => st_of x t A9 c9 b xn yn n9 zv u (TabAt.lt (TabAt.below HTv.out hu)) hsm6 (HR9.out.below hu).lt (by rw [HNb.out]; exact hn9) (by omega) (by rw [← hn9]; exact HC9.out.1) HFXb.out HVAL.out HSTb.out
                        unfold TA.val at CSa CSb
                        replace CSa := Lib.hid CSa
                        replace CSb := Lib.hid CSb
                        rw [hn8, hn9]
                        have hn8b : n8 ≤ 100 := by omega
                        have hn9b : n9 ≤ 100 := by omega
                        clear hn8 hn9
                        go_upto_region 17 with fail
                        refine wp_region_tree (fun w' => Blk w' w3.heap.size 28 (x.cs t) ∧ Blk w' gx 33 #[.int .i64 (xn : Int), .int .i64 (yn : Int), .int .i64 zv]) (.float 0 (.float 1 (.float 2 (.float 3 (.float 5 (.float 6 (.one 4 (.float 7 (.float 8 (.float 9 (.float 10 (.float 11 (.float 12 (.float 14 (.float 15 (.one 13 (.float 16 (.float 17 .done)))))))))))))))))) (by kernel_rfl) (by kernel_rfl) (fun _ _ d _ _ h => by cases d <;> exact h) ⟨HKV.out.drew, HKXV.out.drew⟩ ?_
                        repeat (first
                          | (refine wpTr_fskip (by simp only [List.getElem?_toArray, List.getElem?_cons_zero, List.getElem?_cons_succ]; rfl) (by rfl) ?_
                             simp only [Act.put, List.setIfInBounds_toArray, List.set_cons_zero, List.set_cons_succ])
                          | (refine wpTr_float (v := ?_) (by simp only [List.getElem?_toArray, List.getElem?_cons_zero, List.getElem?_cons_succ]; rfl) (by rfl) (fun w' hS => ?_) ?_
                             rotate_left
                             ((obtain ⟨hS1, hS2⟩ := hS; obtain ⟨e0', e1', e2', e3', e4', e5', el'⟩ := tab6 hS1; have s0' := hS2.cell 0; have s1' := hS2.cell 1; have s2' := hS2.cell 2; have sl' := hS2.lt); go_simp; first | done | rfl)
                             simp only [Act.put, List.setIfInBounds_toArray, List.set_cons_zero, List.set_cons_succ]))
                        refine wpTr_one ?_
                        refine stepTr_K (by simp only [List.getElem?_toArray, List.getElem?_cons_zero, List.getElem?_cons_succ]; rfl) (by rfl) (fun K hK => ?_)
                        go_simp
                        refine (CSa.out wv.drew (Below.refl _ _).drew).mono ?_
                        rintro e w10 ⟨rfl, hb10⟩
                        have HBL10 : Hid (Below wv.heap.size wv w10) := Lib.hid ((Below.refl _ _).drew.trans hb10)
                        refine hK.out _ _ ⟨HKV.out.after HBL10.out, HKXV.out.after HBL10.out⟩ ?_
                        clear hK K hb10
                        try simp only [Act.put, List.setIfInBounds_toArray, List.set_cons_zero, List.set_cons_succ]
                        repeat (first
                          | (refine wpTr_fskip (by simp only [List.getElem?_toArray, List.getElem?_cons_zero, List.getElem?_cons_succ]; rfl) (by rfl) ?_
                             simp only [Act.put, List.setIfInBounds_toArray, List.set_cons_zero, List.set_cons_succ])
                          | (refine wpTr_float (v := ?_) (by simp only [List.getElem?_toArray, List.getElem?_cons_zero, List.getElem?_cons_succ]; rfl) (by rfl) (fun w' hS => ?_) ?_
                             rotate_left
                             ((obtain ⟨hS1, hS2⟩ := hS; obtain ⟨e0', e1', e2', e3', e4', e5', el'⟩ := tab6 hS1; have s0' := hS2.cell 0; have s1' := hS2.cell 1; have s2' := hS2.cell 2; have sl' := hS2.lt); go_simp; first | done | rfl)
                             simp only [Act.put, List.setIfInBounds_toArray, List.set_cons_zero, List.set_cons_succ]))
                        refine wpTr_one ?_
                        refine stepTr_K (by simp only [List.getElem?_toArray, List.getElem?_cons_zero, List.getElem?_cons_succ]; rfl) (by rfl) (fun K hK => ?_)
                        go_simp
                        refine (CSb.out w10 HBL10.out).mono ?_
                        rintro e w11 ⟨rfl, hb11⟩
                        have HBL11 : Hid (Below wv.heap.size wv w11) := Lib.hid (HBL10.out.trans (hb11.mono HBL10.out.size))
                        refine hK.out _ _ ⟨HKV.out.after HBL11.out, HKXV.out.after HBL11.out⟩ ?_
                        clear hK K hb11
                        try simp only [Act.put, List.setIfInBounds_toArray, List.set_cons_zero, List.set_cons_succ]
                        repeat (first
                          | (refine wpTr_fskip (by simp only [List.getElem?_toArray, List.getElem?_cons_zero, List.getElem?_cons_succ]; rfl) (by rfl) ?_
                             simp only [Act.put, List.setIfInBounds_toArray, List.set_cons_zero, List.set_cons_succ])
                          | (refine wpTr_float (v := ?_) (by simp only [List.getElem?_toArray, List.getElem?_cons_zero, List.getElem?_cons_succ]; rfl) (by rfl) (fun w' hS => ?_) ?_
                             rotate_left
                             ((skip); go_simp; first | done | rfl)
                             simp only [Act.put, List.setIfInBounds_toArray, List.set_cons_zero, List.set_cons_succ]))
                        refine wpTr_done ?_
                        have HBR : Hid (Below w8.heap.size w8 w11) := Lib.hid (HB8v.out.trans (HBL11.out.mono HB8v.out.size))
                        go_wp2
                        go_roundw
                        case rel => exact ⟨k + 1, by omega, by go_num, HBR⟩
                        case measure => simp [intOf] <;> omega
                  · go_wp2_with fail
                    refine (alive_any _).mono ?_
                    rintro e wz ⟨rfl, hbz⟩
                    have HBz := Lib.hid (HBs.out.trans (hbz.mono HBs.out.size))
                    clear hbz
                    go_wp2
                    go_ret
                    exact ⟨rfl, HBz.out⟩
        · have der : decide (er = 0) = false := decide_eq_false her
          have ber : (er != 0) = true := by simpa using her
          go_wp2_with fail
          refine (alive_any _).mono ?_
          rintro e w9 ⟨rfl, hb9⟩
          have HB9 := Lib.hid (HB4.out.trans (hb9.mono HB4.out.size))
          clear hb9
          go_wp2
          go_ret
          exact ⟨rfl, HB9.out⟩
      · have db : decide (nb ≤ 12) = false := decide_eq_false hb12
        rw [db]
        clear db
        go_wp2_with fail
        refine (alive_any _).mono ?_
        rintro e w9 ⟨rfl, hb9⟩
        have HB9 := Lib.hid (HB2.out.trans (hb9.mono HB2.out.size))
        clear hb9
        go_wp2
        go_ret
        exact ⟨rfl, HB9.out⟩
    · have da : decide (na ≤ 12) = false := decide_eq_false ha12
      rw [da]
      clear da
      go_wp2_with fail
      refine (alive_any _).mono ?_
      rintro e w9 ⟨rfl, hb9⟩
      have HB9 := Lib.hid (HB2.out.trans (hb9.mono HB2.out.size))
      clear hb9
      go_wp2
      go_ret
      exact ⟨rfl, HB9.out⟩
theorem own : ownKnob Try.prog.godebug = none := by kernel_rfl
theorem laidOut : laidOutB Try.prog = true := by kernel_rfl
set_option maxRecDepth 100000 in
theorem lifted (os : Os) (started : os.Started) (H : Type) (enc : TypeId × Value → H) :
    ReturnsInHanded {} Try.checked os 9 .any (Rows.anywhereForgetsSpec.pre6 enc Try.prog Try.f9 Rows.anywhereForgetsRow.domain false) (Rows.anywhereForgetsSpec.post enc Try.prog Try.f9 false true false false) := by
  refine returnsInHanded_of_change (C := Try.checked) own started (by kernel_rfl) Try.func9
    (ChangeSpec.witness6 (enc := enc) (C := Try.checked) false ⟨#[], #[.agg #[.slice none 0 0, .slice none 0 0], .slice none 0 0, .slice none 0 0], []⟩ 8 (by kernel_rfl) (by kernel_rfl) (by kernel_rfl) (by kernel_rfl)) ?_
  intro W base args ds gs before hval0 hW hcnd _
  have hval : ∀ (j : Nat) t v, Try.f9.params[j]? = some t → args[j]? = some v → Value.okWide Try.prog W .any base t v := hval0
  have hW' := hW
  obtain ⟨p, q, hA0, hV, rfl, hfz, hnd⟩ := hW
  have hA : DataW.TrodAll enc Try.prog W 0 (fun _ => true) true Try.f9.params.toList args.toList ds p := hA0
  rw [Try.params9] at hA hval
  obtain ⟨v0, v1, v2, d0, d1, d2, p0, p1, p2, rfl, rfl, rfl, h0, h1, h2⟩ := trodAll_three hA
  obtain ⟨rfl, rfl⟩ := trodVars_none hV
  obtain ⟨A0, c0, l0, B0, d0, r0, rfl, hS0, hR0⟩ := open_rules28 (hval 0 56 v0 rfl rfl) h0
  obtain ⟨ad1, le1, ca1, rfl⟩ := okWide_slice Try.underlying23 (hval 1 23 v1 rfl rfl)
  obtain ⟨fu1, hf1⟩ := h1
  obtain ⟨A1, c1, xs1, hv1, hc1, hm1, hR1, -⟩ := open_row (v := .slice ad1 le1 ca1) Try.underlying23 Try.underlying3 (by kernel_rfl) hf1
  injection hv1 with ea1 eb1 ec1
  subst ea1 eb1 ec1
  obtain ⟨ad2, le2, ca2, rfl⟩ := okWide_slice Try.underlying23 (hval 2 23 v2 rfl rfl)
  obtain ⟨fu2, hf2⟩ := h2
  obtain ⟨A2, c2, xs2, hv2, hc2, hm2, hR2, -⟩ := open_row (v := .slice ad2 le2 ca2) Try.underlying23 Try.underlying3 (by kernel_rfl) hf2
  injection hv2 with ea2 eb2 ec2
  subst ea2 eb2 ec2
  refine (walk W A0 c0 l0 B0 d0 r0 hS0 hR0 ad1 ca1 xs1 hc1 hm1 hR1 ad2 ca2 xs2 hc2 hm2 hR2).mono fun e W' ⟨he, hb⟩ => ⟨_, he, ?_⟩
  exact law_post laidOut (by rw [Try.params9]; exact of_decide_eq_true (by kernel_rfl)) rfl rfl Try.underlying4 hW' rfl hb
theorem holds : Rows.AnywhereForgetsSaid :=
  OpenClaim.holds_of_wide 9 Try.f9 rfl rfl rfl rfl rfl rfl rfl ⟨rfl, rfl, rfl, rfl, rfl⟩ rfl rfl rfl rfl rfl (by kernel_rfl) Try.func9 (by kernel_rfl)
    (of_decide_eq_true (by kernel_rfl)) (by unfold Func.isWrapper; first | (rw [if_pos (by decide +kernel)]; kernel_rfl) | (rw [if_neg (by decide +kernel)]; exact ⟨rfl, rfl⟩))
    (fun os started H enc _ => lifted os started H enc)
end Go.Proofs.Ytkoojoogddndnaa.LForgets
namespace Go.Proofs.Ytkoojoogddndnaa
theorem anywhereForgets_holds : Rows.AnywhereForgetsSaid := LForgets.holds
end Go.Proofs.Ytkoojoogddndnaa
