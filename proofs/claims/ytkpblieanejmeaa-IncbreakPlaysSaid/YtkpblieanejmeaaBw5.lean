/-
  breakauto.sound, breakauto.Valid.
-/
import Derived.Test.YtkpblieanejmeaaBw4
namespace Go.Proofs.Ytkpblieanejmeaa
open Go.RowKit Go.UtYtkpblieanejmeaa
set_option maxRecDepth 100000 in
set_option maxHeartbeats 4000000 in
theorem sound_any (A A' : Option Addr) (c c' kc na : Nat) (nx mk : List (List Int)) (w : World) (h : AutAt w w.heap.size A c A' c' nx mk) (hkc : kc ≤ 1000) (hna : na ≤ 1000) (v : Bool) (hv : v = true ↔ soundP nx mk kc na) :
    Calls Try.prog 61 #[.agg #[.slice A nx.length c, .slice A' mk.length c'], .int .i64 (kc : Int), .int .i64 (na : Int)] w fun e w' => e = .returned (.bool v) ∧ Below w.heap.size w w' := by
  obtain ⟨⟨h1, h2, h3⟩, h4, h5, h6⟩ := h
  have HN := Lib.hid h1
  have HM := Lib.hid h4
  obtain ⟨n, hn⟩ : ∃ n, nx.length = n := ⟨_, rfl⟩
  obtain ⟨m, hm⟩ : ∃ n, mk.length = n := ⟨_, rfl⟩
  have HLN := Lib.hid hn
  have HLM := Lib.hid hm
  have HV := Lib.hid hv
  rw [hn] at h2
  rw [hm] at h5
  rw [hn, hm]
  unfold maxLen at h3 h6
  clear h1 h4 hn hm hv
  obtain ⟨w1, hw1, HB1, HK1⟩ := boxV w 29 #[.slice A n c, .slice A' m c']
  obtain ⟨q0, q1, ql⟩ := blk2 HK1.out
  by_cases g1 : n < 1
  · have HF : Hid (v = false) := bool_neg HV.out (fun h => by have := h.1.1; rw [HLN.out] at this; omega)
    go_enter Try.func61, Try.ntmps61
    go_upto_region 1 with fail
    rw [← hw1]
    clear hw1
    go_wp2
    go_ret
    exact ⟨ret_bool HF.out.symm, HB1.out⟩
  by_cases g2 : 400 < n
  · have HF : Hid (v = false) := bool_neg HV.out (fun h => by have := h.1.2; rw [HLN.out] at this; omega)
    go_enter Try.func61, Try.ntmps61
    go_upto_region 1 with fail
    rw [← hw1]
    clear hw1
    go_wp2
    go_ret
    exact ⟨ret_bool HF.out.symm, HB1.out⟩
  by_cases g3 : m ≠ n
  · have HF : Hid (v = false) := bool_neg HV.out (fun h => by have := h.2.1; rw [HLN.out, HLM.out] at this; omega)
    have g4 : ((m : Int) != (n : Int)) = true := by simp; omega
    go_enter Try.func61, Try.ntmps61
    go_upto_region 1 with fail
    rw [← hw1]
    clear hw1
    go_wp2
    go_ret
    exact ⟨ret_bool HF.out.symm, HB1.out⟩
  obtain rfl : m = n := Classical.not_not.1 g3
  have d1 : decide (m < 1) = false := decide_eq_false g1
  have d2 : decide (400 < m) = false := decide_eq_false g2
  clear g3
  go_enter Try.func61, Try.ntmps61
  go_upto_region 1 with fail
  rw [← hw1]
  clear hw1
  go_wp2
  go_loopw [34] (fun i wr => ∃ k : Nat, k ≤ m ∧ i = .int .i64 (k : Int) ∧ Hid (∀ r ∈ nx.take k, rowOk m kc r) ∧ Hid (∀ r ∈ mk.take k, ascL (na : Int) 0 r) ∧ wr = w1) (fun i _ => m - (intOf i).toNat)
  case atStart => exact ⟨0, by omega, rfl, fun r hr => by simp at hr, fun r hr => by simp at hr, rfl⟩
  case round =>
    obtain ⟨k, hk, rfl, HK, HKM, hw⟩ := hrel
    subst wr
    by_cases hkn : k < m
    · obtain ⟨b, o, A2, c2, r, rfl, hb, hx, cc, l1, l2, hr⟩ := (HN.out.below HB1.out).at_ (k := k) (by rw [HLN.out]; exact hkn)
      have HRR := Lib.hid hr
      obtain ⟨z, hz⟩ : ∃ z, r.length = z := ⟨_, rfl⟩
      rw [hz] at cc l1
      have HZ := Lib.hid hz
      unfold maxLen at l2
      clear hz hr
      by_cases hzk : z = kc
      case neg =>
        have HF : Hid (v = false) := bool_neg HV.out (fun h => by have := (h.2.2.1 r (List.mem_of_getElem? hx.out)).1; rw [HZ.out] at this; exact hzk this)
        have hzk2 : ((z : Int) != (kc : Int)) = true := by simp; omega
        go_wp2
        go_ret
        exact ⟨ret_bool HF.out.symm, HB1.out⟩
      case pos =>
        subst hzk
        go_wp2
        go_loopw [45] (fun i wr => ∃ j : Nat, j ≤ z ∧ i = .int .i64 (j : Int) ∧ Hid (∀ x ∈ r.take j, 0 ≤ x ∧ x < (m : Int)) ∧ wr = w1) (fun i _ => z - (intOf i).toNat)
        case atStart => exact ⟨0, by omega, rfl, fun r hr => by simp at hr, rfl⟩
        case round =>
          obtain ⟨j, hj, rfl, HJ, hw⟩ := hrel
          subst wr
          by_cases hjz : j < z
          · obtain ⟨b3, o3, x, rfl, hb3, hxx, ccx⟩ := HRR.out.at_int (k := j) (by rw [HZ.out]; exact hjz)
            by_cases hx0 : x < 0
            · have HF : Hid (v = false) := bool_neg HV.out (fun h => by have := (h.2.2.1 r (List.mem_of_getElem? hx.out)).2 x (List.mem_of_getElem? hxx.out); omega)
              go_wp2
              go_ret
              exact ⟨ret_bool HF.out.symm, HB1.out⟩
            · have dx0 : decide (x < 0) = false := decide_eq_false hx0
              by_cases hxm : (m : Int) ≤ x
              · have HF : Hid (v = false) := bool_neg HV.out (fun h => by have := (h.2.2.1 r (List.mem_of_getElem? hx.out)).2 x (List.mem_of_getElem? hxx.out); rw [HLN.out] at this; omega)
                go_wp2
                go_ret
                exact ⟨ret_bool HF.out.symm, HB1.out⟩
              · have HJ' := Lib.hid (all_snoc (P := fun x => 0 ≤ x ∧ x < (m : Int)) HJ.out hxx.out ⟨by omega, by omega⟩)
                go_wp2
                go_roundw
                case rel => exact ⟨j + 1, by omega, by go_num, HJ', by trivial⟩
                case measure => simp [intOf]; omega
          · have HRO : Hid (rowOk m z r) := ⟨HZ.out, all_take HJ.out (by rw [HZ.out]; omega)⟩
            have HK' := Lib.hid (all_snoc (P := rowOk m z) HK.out hx.out HRO.out)
            obtain ⟨b4, o4, A4, c4, q, rfl, hb4, hx4, cc4, l14, l24, hr4⟩ := (HM.out.below HB1.out).at_ (k := k) (by rw [HLM.out]; exact hkn)
            have HR4 := Lib.hid hr4
            obtain ⟨y, hy⟩ : ∃ z, q.length = z := ⟨_, rfl⟩
            rw [hy] at cc4 l14
            have HY := Lib.hid hy
            unfold maxLen at l24
            clear hy hr4
            go_wp2
            go_loopw [12, 63] (fun la i wr => ∃ (j : Nat) (lst : Int), j ≤ y ∧ i = .int .i64 (j : Int) ∧ la = .int .i64 (lst + 1) ∧ -1 ≤ lst ∧ lst ≤ 1000 ∧ Hid (ascL (na : Int) 0 (q.take j)) ∧ Hid ((q.take j = [] ∧ lst = -1) ∨ (q.take j).getLast? = some lst) ∧ wr = w1) (fun _ i _ => y - (intOf i).toNat)
            case atStart => exact ⟨0, -1, by omega, rfl, rfl, by omega, by omega, trivial, .inl ⟨rfl, rfl⟩, rfl⟩
            case round =>
              obtain ⟨j, lst, hj, rfl, rfl, hl1, hl2, HJ, HLS, hw⟩ := hrel
              subst wr
              by_cases hjy : j < y
              · obtain ⟨b5, o5, x, rfl, hb5, hxx, ccx⟩ := HR4.out.at_int (k := j) (by rw [HY.out]; exact hjy)
                by_cases hx0 : x ≤ lst
                · have HF : Hid (v = false) := bool_neg HV.out (fun h => by
                    have ha := h.2.2.2 q (List.mem_of_getElem? hx4.out)
                    have h0 := asc_mem ha j x hxx.out
                    rcases HLS.out with ⟨_, h2⟩ | h2
                    · omega
                    · rw [List.getLast?_eq_getElem?] at h2
                      have h3 := (List.getElem?_eq_some_iff.1 h2).1
                      rw [List.getElem?_take] at h2
                      rw [List.length_take] at h2 h3
                      split at h2
                      · have := asc_lt ha _ j lst x (by omega) h2 hxx.out
                        omega
                      · cases h2)
                  go_wp2
                  go_ret
                  exact ⟨ret_bool HF.out.symm, HB1.out⟩
                · have dx0 : decide (x ≤ lst) = false := decide_eq_false hx0
                  by_cases hxm : (na : Int) ≤ x
                  · have HF : Hid (v = false) := bool_neg HV.out (fun h => by
                      have h0 := asc_mem (h.2.2.2 q (List.mem_of_getElem? hx4.out)) j x hxx.out
                      omega)
                    go_wp2
                    go_ret
                    exact ⟨ret_bool HF.out.symm, HB1.out⟩
                  · have HJ' : Hid (ascL (na : Int) 0 (q.take (j + 1))) := asc_snoc HJ.out hxx.out (fun y hy => by
                      rcases HLS.out with ⟨h1, _⟩ | h2
                      · rw [h1] at hy
                        cases hy
                      · rw [h2] at hy
                        injection hy with hy
                        omega) (fun e => by
                      rcases HLS.out with ⟨_, h1⟩ | h2
                      · omega
                      · rw [e] at h2
                        cases h2) (by omega)
                    have HLS' : Hid ((q.take (j + 1) = [] ∧ x = -1) ∨ (q.take (j + 1)).getLast? = some x) := .inr (by
                      obtain ⟨h1, h2⟩ := List.getElem?_eq_some_iff.1 hxx.out
                      rw [List.take_succ_eq_append_getElem h1, h2]
                      simp)
                    go_wp2
                    go_roundw
                    case rel => exact ⟨j + 1, x, by omega, by go_num, rfl, by omega, by omega, HJ', HLS', by trivial⟩
                    case measure => simp [intOf]; omega
              · have HA : Hid (ascL (na : Int) 0 q) := by
                  have := HJ.out
                  rw [List.take_of_length_le (by rw [HY.out]; omega)] at this
                  exact this
                have HKM' := Lib.hid (all_snoc (P := fun q => ascL (na : Int) 0 q) HKM.out hx4.out HA.out)
                go_wp2
                go_roundw
                case rel => exact ⟨k + 1, by omega, by go_num, HK', HKM', by trivial⟩
                case measure => simp [intOf]; omega
    · have HF : Hid (v = true) := HV.out.2 ⟨⟨by rw [HLN.out]; omega, by rw [HLN.out]; omega⟩, by rw [HLN.out, HLM.out], fun r hr => by rw [HLN.out]; exact all_take HK.out (by rw [HLN.out]; omega) r hr, all_take HKM.out (by rw [HLM.out]; omega)⟩
      go_wp2
      go_ret
      exact ⟨ret_bool HF.out.symm, HB1.out⟩
set_option maxRecDepth 100000 in
set_option maxHeartbeats 4000000 in
open Classical in
theorem valid_any (x : TA) (t : BT) (w : World) (h : TabAt w w.heap.size x t) (hsm : t.cls.length ≤ 1000 ∧ t.act.length ≤ 1000) (v : Bool) (hv : v = true ↔ validT t) :
    Calls Try.prog 35 #[x.val t] w fun e w' => e = .returned (.bool v) ∧ Below w.heap.size w w' := by
  unfold TA.val
  have HT := Lib.hid h
  have HV := Lib.hid hv
  obtain ⟨w1, hw1, HB1, HK1⟩ := boxT w 31 x t
  obtain ⟨q0, q1, q2, q3, q4, q5, ql⟩ := tab6 HK1.out
  obtain ⟨na, hna⟩ : ∃ n, t.act.length = n := ⟨_, rfl⟩
  obtain ⟨nc, hnc⟩ : ∃ n, t.cls.length = n := ⟨_, rfl⟩
  have HNA := Lib.hid hna
  have HNC := Lib.hid hnc
  have hca := h.2.1.2
  have hcc := h.1.2
  rw [hna] at hca hsm q1 hw1 ⊢
  rw [hnc] at hcc hsm q0 hw1 ⊢
  unfold maxLen at hca hcc
  have CN := check28_any x.c x.cc t.cls
  rw [hnc] at CN
  replace CN := Lib.hid CN
  clear h hv hna hnc
  by_cases gc : clsOk t.cls
  case neg =>
    have HF : Hid (v = false) := bool_neg HV.out (fun h => gc h.1)
    go_enter Try.func35, Try.ntmps35
    go_upto_region 1 with fail
    rw [← hw1]
    clear hw1
    go_wp2_with fail
    refine (CN.out w1 (HT.out.1.1.below HB1.out).lt hcc.1 HT.out.1.2.2 false ⟨fun h => (by cases h), fun h => absurd h gc⟩).mono ?_
    rintro e w2 ⟨rfl, hb2⟩
    have HB2 := Lib.hid (HB1.out.trans (hb2.mono HB1.out.size))
    clear hb2
    go_wp2
    go_ret
    exact ⟨ret_bool HF.out.symm, HB2.out⟩
  case pos =>
    go_enter Try.func35, Try.ntmps35
    go_upto_region 1 with fail
    rw [← hw1]
    clear hw1
    go_wp2_with fail
    refine (CN.out w1 (HT.out.1.1.below HB1.out).lt hcc.1 HT.out.1.2.2 true ⟨fun _ => gc, fun _ => rfl⟩).mono ?_
    rintro e w2 ⟨rfl, hb2⟩
    have HB2 := Lib.hid (HB1.out.trans (hb2.mono HB1.out.size))
    have HK2 := Lib.hid (HK1.out.after hb2)
    clear hb2 q0 q1 q2 q3 q4 q5 ql
    obtain ⟨q0, q1, q2, q3, q4, q5, ql⟩ := tab6 HK2.out
    rw [HNA.out] at q1
    rw [HNC.out] at q0
    by_cases gn : 100 < na
    case pos =>
      have HF : Hid (v = false) := bool_neg HV.out (fun h => by have := h.2.1; rw [HNA.out] at this; omega)
      go_wp2
      go_ret
      exact ⟨ret_bool HF.out.symm, HB2.out⟩
    case neg =>
      have dn : decide (100 < na) = false := decide_eq_false gn
      go_wp2
      go_loopw [19] (fun i wr => ∃ k : Nat, k ≤ na ∧ i = .int .i64 (k : Int) ∧ Hid (∀ a ∈ t.act.take k, 1 ≤ a ∧ a ≤ 3) ∧ wr = w2) (fun i _ => na - (intOf i).toNat)
      case atStart => exact ⟨0, by omega, rfl, fun r hr => by simp at hr, rfl⟩
      case round =>
        obtain ⟨k, hk, rfl, HK, hw⟩ := hrel
        subst wr
        by_cases hkn : k < na
        · obtain ⟨b, o, y, hA, hb, hx, cc⟩ := (HT.out.2.1.1.below HB2.out).at_int (k := k) (by rw [HNA.out]; exact hkn)
          have hbl : b < w2.heap.size := by have := HB2.out.size; omega
          rw [hA] at q1
          by_cases gy : 1 ≤ y ∧ y ≤ 3
          · have HK' := Lib.hid (all_snoc (P := fun a : Int => 1 ≤ a ∧ a ≤ 3) HK.out hx.out gy)
            rcases (show y = 1 ∨ y = 2 ∨ y = 3 by omega) with rfl | rfl | rfl
            all_goals
              clear gy
              go_wp2
              go_roundw
              case rel => exact ⟨k + 1, by omega, by go_num, HK', by trivial⟩
              case measure => simp [intOf]; omega
          · have HF : Hid (v = false) := bool_neg HV.out (fun h => gy (h.2.2.1 y (List.mem_of_getElem? hx.out)))
            have n1 : (y != 1) = true := by simp; omega
            have n2 : (y != 2) = true := by simp; omega
            have n3 : (y != 3) = true := by simp; omega
            go_wp2
            go_ret
            exact ⟨ret_bool HF.out.symm, HB2.out⟩
        · have HA := Lib.hid (all_take HK.out (by rw [HNA.out]; omega))
          by_cases gl : soundP t.ln t.lm nc na
          case neg =>
            have HF : Hid (v = false) := bool_neg HV.out (fun h => gl (by have := h.2.2.2.1; rw [HNA.out, HNC.out] at this; exact this))
            go_wp2_with fail
            refine (sound_any x.ln x.lm x.cln x.clm nc na t.ln t.lm w2 (HT.out.2.2.1.below HB2.out).lt hsm.1 hsm.2 false ⟨fun h => (by cases h), fun h => absurd h gl⟩).mono ?_
            rintro e w3 ⟨rfl, hb3⟩
            have HB3 := Lib.hid (HB2.out.trans (hb3.mono HB2.out.size))
            clear hb3
            go_wp2
            go_ret
            exact ⟨ret_bool HF.out.symm, HB3.out⟩
          case pos =>
            obtain ⟨v', hv'⟩ : ∃ v' : Bool, v' = decide (soundP t.rn t.rm nc na) := ⟨_, rfl⟩
            have HF : Hid (v = v') := by
              refine bool_iff ?_
              rw [hv', decide_eq_true_iff, HV.out]
              unfold validT
              rw [HNA.out, HNC.out]
              exact ⟨fun h => h.2.2.2.2, fun h => ⟨gc, by omega, HA.out, gl, h⟩⟩
            have HV' : Hid (v' = true ↔ soundP t.rn t.rm nc na) := by
              show _ ↔ _
              rw [hv', decide_eq_true_iff]
            clear hv'
            go_wp2_with fail
            refine (sound_any x.ln x.lm x.cln x.clm nc na t.ln t.lm w2 (HT.out.2.2.1.below HB2.out).lt hsm.1 hsm.2 true ⟨fun _ => gl, fun _ => rfl⟩).mono ?_
            rintro e w3 ⟨rfl, hb3⟩
            have HB3 := Lib.hid (HB2.out.trans (hb3.mono HB2.out.size))
            have HK3 := Lib.hid (HK2.out.after hb3)
            clear hb3 q0 q1 q2 q3 q4 q5 ql
            obtain ⟨q0, q1, q2, q3, q4, q5, ql⟩ := tab6 HK3.out
            rw [HNA.out] at q1
            rw [HNC.out] at q0
            go_wp2_with fail
            refine (sound_any x.rn x.rm x.crn x.crm nc na t.rn t.rm w3 (HT.out.2.2.2.below HB3.out).lt hsm.1 hsm.2 v' HV'.out).mono ?_
            rintro e w4 ⟨rfl, hb4⟩
            have HB4 := Lib.hid (HB3.out.trans (hb4.mono HB3.out.size))
            clear hb4
            go_wp2
            go_ret
            exact ⟨ret_bool HF.out.symm, HB4.out⟩
end Go.Proofs.Ytkpblieanejmeaa
