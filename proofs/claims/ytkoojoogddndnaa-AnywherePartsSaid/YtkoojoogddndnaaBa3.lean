/-
  anywhere.permitted, ref31.usable.
-/
import Derived.Test.YtkoojoogddndnaaBa2
namespace Go.Proofs.Ytkoojoogddndnaa
open Go.RowKit Go.UtYtkoojoogddndnaa
set_option maxRecDepth 100000 in
set_option maxHeartbeats 2000000 in
theorem permitted_any (x : TA) (t : BT) (A : Option Addr) (c : Nat) (l : List Int) (a : Int) (w : World) (h : TabAt w w.heap.size x t) (hsm : t.cls.length ≤ 1000 ∧ t.act.length ≤ 1000) (hl : Row w w.heap.size A (ints l)) (hll : l.length ≤ 100000) (v : Bool) (hv : v = true ↔ (0 ≤ a ∧ a ≤ (l.length : Int)) ∧ fitsL t l ∧ validT t) :
    Calls Try.prog 39 #[x.val t, .slice A l.length c, .int .i64 a] w fun e w' => e = .returned (.bool v) ∧ Below w.heap.size w w' := by
  have CV := Lib.hid (fun (u : World) (hu : Below w.heap.size w u) (v' : Bool) (hv' : v' = true ↔ validT t) => valid_any x t u (h.below hu).lt hsm v' hv')
  unfold TA.val at CV ⊢
  have HV := Lib.hid hv
  have HL := Lib.hid hl
  obtain ⟨w1, hw1, HB1, HK1⟩ := boxT w 28 x t
  obtain ⟨q0, q1, q2, q3, q4, q5, ql⟩ := tab6 HK1.out
  obtain ⟨n, hn⟩ : ∃ n, l.length = n := ⟨_, rfl⟩
  obtain ⟨nc, hnc⟩ : ∃ n, t.cls.length = n := ⟨_, rfl⟩
  have HN := Lib.hid hn
  have HNC := Lib.hid hnc
  rw [hnc] at q0 hw1 CV hsm
  rw [hn] at hll HV
  rw [hn, hnc]
  clear h hv hl hn hnc
  by_cases ga : 0 ≤ a ∧ a ≤ (n : Int)
  case neg =>
    have HF : Hid (v = false) := bool_neg HV.out (fun h => ga h.1)
    obtain ⟨vb, hvb⟩ : ∃ vb : Bool, vb = true ↔ validT t := by
      by_cases hp : validT t
      · exact ⟨true, fun _ => hp, fun _ => rfl⟩
      · exact ⟨false, fun h => (by cases h), fun h => absurd h hp⟩
    have CVB := Lib.hid (CV.out w1 HB1.out vb hvb)
    clear hvb
    by_cases g0 : a < 0
    · have d1 : decide (a < 0) = true := decide_eq_true g0
      cases vb
      all_goals
        go_enter Try.func39, Try.ntmps39
        go_upto_region 1 with fail
        rw [← hw1]
        clear hw1
        go_wp2_with fail
        refine CVB.out.mono ?_
        rintro e w2 ⟨rfl, hb2⟩
        have HB2 := Lib.hid (HB1.out.trans (hb2.mono HB1.out.size))
        clear hb2
        go_wp2
        go_ret
        exact ⟨ret_bool HF.out.symm, HB2.out⟩
    · have d1 : decide (a < 0) = false := decide_eq_false g0
      have g1 : (n : Int) < a := by omega
      have d2 : decide ((n : Int) < a) = true := decide_eq_true g1
      cases vb
      all_goals
        go_enter Try.func39, Try.ntmps39
        go_upto_region 1 with fail
        rw [← hw1]
        clear hw1
        go_wp2_with fail
        refine CVB.out.mono ?_
        rintro e w2 ⟨rfl, hb2⟩
        have HB2 := Lib.hid (HB1.out.trans (hb2.mono HB1.out.size))
        clear hb2
        go_wp2
        go_ret
        exact ⟨ret_bool HF.out.symm, HB2.out⟩
  case pos =>
    have d1 : decide (a < 0) = false := decide_eq_false (by omega)
    have d2 : decide ((n : Int) < a) = false := decide_eq_false (by omega)
    by_cases gv : validT t
    case neg =>
      have HF : Hid (v = false) := bool_neg HV.out (fun h => gv h.2.2)
      go_enter Try.func39, Try.ntmps39
      go_upto_region 1 with fail
      rw [← hw1]
      clear hw1
      go_wp2_with fail
      refine (CV.out w1 HB1.out false ⟨fun h => (by cases h), fun h => absurd h gv⟩).mono ?_
      rintro e w2 ⟨rfl, hb2⟩
      have HB2 := Lib.hid (HB1.out.trans (hb2.mono HB1.out.size))
      clear hb2
      go_wp2
      go_ret
      exact ⟨ret_bool HF.out.symm, HB2.out⟩
    case pos =>
      go_enter Try.func39, Try.ntmps39
      go_upto_region 1 with fail
      rw [← hw1]
      clear hw1
      go_wp2_with fail
      refine (CV.out w1 HB1.out true ⟨fun _ => gv, fun _ => rfl⟩).mono ?_
      rintro e w2 ⟨rfl, hb2⟩
      have HB2 := Lib.hid (HB1.out.trans (hb2.mono HB1.out.size))
      have HK2 := Lib.hid (HK1.out.after hb2)
      clear hb2 q0 q1 q2 q3 q4 q5 ql
      obtain ⟨q0, q1, q2, q3, q4, q5, ql⟩ := tab6 HK2.out
      rw [HNC.out] at q0
      go_wp2
      go_loopw [24] (fun i wr => ∃ k : Nat, k ≤ n ∧ i = .int .i64 (k : Int) ∧ Hid (∀ y ∈ l.take k, 0 ≤ y ∧ y < (nc : Int)) ∧ wr = w2) (fun i _ => n - (intOf i).toNat)
      case atStart => exact ⟨0, by omega, rfl, fun r hr => by simp at hr, rfl⟩
      case round =>
        obtain ⟨k, hk, rfl, HK, hw⟩ := hrel
        subst wr
        by_cases hkn : k < n
        · obtain ⟨b, o, y, rfl, hb, hx, cc⟩ := (HL.out.below HB2.out).at_int (k := k) (by rw [HN.out]; exact hkn)
          have hbl : b < w2.heap.size := by have := HB2.out.size; omega
          by_cases g1 : y < 0
          · have HF : Hid (v = false) := bool_neg HV.out (fun h => by have := h.2.1 y (List.mem_of_getElem? hx.out); omega)
            go_wp2
            go_ret
            exact ⟨ret_bool HF.out.symm, HB2.out⟩
          · have e1 : decide (y < 0) = false := decide_eq_false g1
            by_cases g2 : (nc : Int) ≤ y
            · have HF : Hid (v = false) := bool_neg HV.out (fun h => by have := h.2.1 y (List.mem_of_getElem? hx.out); rw [HNC.out] at this; omega)
              go_wp2
              go_ret
              exact ⟨ret_bool HF.out.symm, HB2.out⟩
            · have HK' := Lib.hid (all_snoc (P := fun y : Int => 0 ≤ y ∧ y < (nc : Int)) HK.out hx.out ⟨by omega, by omega⟩)
              go_wp2
              go_roundw
              case rel => exact ⟨k + 1, by omega, by go_num, HK', by trivial⟩
              case measure => simp [intOf]; omega
        · have HA : Hid (fitsL t l) := fun y hy => by rw [HNC.out]; exact all_take HK.out (by rw [HN.out]; omega) y hy
          have HF : Hid (v = true) := HV.out.2 ⟨ga, HA.out, gv⟩
          go_wp2
          go_ret
          exact ⟨ret_bool HF.out.symm, HB2.out⟩
set_option maxRecDepth 100000 in
set_option maxHeartbeats 2000000 in
theorem usable31_any (x : TA) (t : BT) (A : Option Addr) (c : Nat) (l : List Int) (a : Int) (w : World) (h : TabAt w w.heap.size x t) (hsm : t.cls.length ≤ 1000 ∧ t.act.length ≤ 1000) (hl : Row w w.heap.size A (ints l)) (hll : l.length ≤ 100000) (v : Bool) (hv : v = true ↔ (0 ≤ a ∧ a ≤ (l.length : Int)) ∧ fitsL t l ∧ validT t) :
    Calls Try.prog 40 #[x.val t, .slice A l.length c, .int .i64 a] w fun e w' => e = .returned (.bool v) ∧ Below w.heap.size w w' := by
  have CV := Lib.hid (fun (u : World) (hu : Below w.heap.size w u) (v' : Bool) (hv' : v' = true ↔ validT t) => valid29_any x t u (h.below hu).lt hsm v' hv')
  unfold TA.val at CV ⊢
  have HV := Lib.hid hv
  have HL := Lib.hid hl
  obtain ⟨w1, hw1, HB1, HK1⟩ := boxT w 28 x t
  obtain ⟨q0, q1, q2, q3, q4, q5, ql⟩ := tab6 HK1.out
  obtain ⟨n, hn⟩ : ∃ n, l.length = n := ⟨_, rfl⟩
  obtain ⟨nc, hnc⟩ : ∃ n, t.cls.length = n := ⟨_, rfl⟩
  have HN := Lib.hid hn
  have HNC := Lib.hid hnc
  rw [hnc] at q0 hw1 CV hsm
  rw [hn] at hll HV
  rw [hn, hnc]
  clear h hv hl hn hnc
  by_cases ga : 0 ≤ a ∧ a ≤ (n : Int)
  case neg =>
    have HF : Hid (v = false) := bool_neg HV.out (fun h => ga h.1)
    by_cases g0 : a < 0
    · have d1 : decide (a < 0) = true := decide_eq_true g0
      go_enter Try.func40, Try.ntmps40
      go_upto_region 1 with fail
      rw [← hw1]
      clear hw1
      go_wp2
      go_ret
      exact ⟨ret_bool HF.out.symm, HB1.out⟩
    · have d1 : decide (a < 0) = false := decide_eq_false g0
      have g1 : (n : Int) < a := by omega
      have d2 : decide ((n : Int) < a) = true := decide_eq_true g1
      go_enter Try.func40, Try.ntmps40
      go_upto_region 1 with fail
      rw [← hw1]
      clear hw1
      go_wp2
      go_ret
      exact ⟨ret_bool HF.out.symm, HB1.out⟩
  case pos =>
    have d1 : decide (a < 0) = false := decide_eq_false (by omega)
    have d2 : decide ((n : Int) < a) = false := decide_eq_false (by omega)
    by_cases gv : validT t
    case neg =>
      have HF : Hid (v = false) := bool_neg HV.out (fun h => gv h.2.2)
      go_enter Try.func40, Try.ntmps40
      go_upto_region 1 with fail
      rw [← hw1]
      clear hw1
      go_wp2_with fail
      refine (CV.out w1 HB1.out false ⟨fun h => (by cases h), fun h => absurd h gv⟩).mono ?_
      rintro e w2 ⟨rfl, hb2⟩
      have HB2 := Lib.hid (HB1.out.trans (hb2.mono HB1.out.size))
      clear hb2
      go_wp2
      go_ret
      exact ⟨ret_bool HF.out.symm, HB2.out⟩
    case pos =>
      go_enter Try.func40, Try.ntmps40
      go_upto_region 1 with fail
      rw [← hw1]
      clear hw1
      go_wp2_with fail
      refine (CV.out w1 HB1.out true ⟨fun _ => gv, fun _ => rfl⟩).mono ?_
      rintro e w2 ⟨rfl, hb2⟩
      have HB2 := Lib.hid (HB1.out.trans (hb2.mono HB1.out.size))
      have HK2 := Lib.hid (HK1.out.after hb2)
      clear hb2 q0 q1 q2 q3 q4 q5 ql
      obtain ⟨q0, q1, q2, q3, q4, q5, ql⟩ := tab6 HK2.out
      rw [HNC.out] at q0
      go_wp2
      go_loopw [24] (fun i wr => ∃ k : Nat, k ≤ n ∧ i = .int .i64 (k : Int) ∧ Hid (∀ y ∈ l.take k, 0 ≤ y ∧ y < (nc : Int)) ∧ wr = w2) (fun i _ => n - (intOf i).toNat)
      case atStart => exact ⟨0, by omega, rfl, fun r hr => by simp at hr, rfl⟩
      case round =>
        obtain ⟨k, hk, rfl, HK, hw⟩ := hrel
        subst wr
        by_cases hkn : k < n
        · obtain ⟨b, o, y, rfl, hb, hx, cc⟩ := (HL.out.below HB2.out).at_int (k := k) (by rw [HN.out]; exact hkn)
          have hbl : b < w2.heap.size := by have := HB2.out.size; omega
          by_cases g1 : y < 0
          · have HF : Hid (v = false) := bool_neg HV.out (fun h => by have := h.2.1 y (List.mem_of_getElem? hx.out); omega)
            go_wp2
            go_ret
            exact ⟨ret_bool HF.out.symm, HB2.out⟩
          · have e1 : decide (y < 0) = false := decide_eq_false g1
            by_cases g2 : (nc : Int) ≤ y
            · have HF : Hid (v = false) := bool_neg HV.out (fun h => by have := h.2.1 y (List.mem_of_getElem? hx.out); rw [HNC.out] at this; omega)
              go_wp2
              go_ret
              exact ⟨ret_bool HF.out.symm, HB2.out⟩
            · have HK' := Lib.hid (all_snoc (P := fun y : Int => 0 ≤ y ∧ y < (nc : Int)) HK.out hx.out ⟨by omega, by omega⟩)
              go_wp2
              go_roundw
              case rel => exact ⟨k + 1, by omega, by go_num, HK', by trivial⟩
              case measure => simp [intOf]; omega
        · have HA : Hid (fitsL t l) := fun y hy => by rw [HNC.out]; exact all_take HK.out (by rw [HN.out]; omega) y hy
          have HF : Hid (v = true) := HV.out.2 ⟨ga, HA.out, gv⟩
          go_wp2
          go_ret
          exact ⟨ret_bool HF.out.symm, HB2.out⟩
end Go.Proofs.Ytkoojoogddndnaa
