/-
  AnywhereReads: for every input the law returns true, and its arguments read as before. No condition.
-/
import Derived.Test.YtkoojoogddndnaaRows
import Derived.Test.YtkoojoogddndnaaLift
import Derived.Test.YtkoojoogddndnaaBo0
import Derived.Test.YtkoojoogddndnaaBo4
import Derived.BigQuiet
namespace Go.Proofs.Ytkoojoogddndnaa.LReads
open Go.ChangeShapes Go.WideShapes Go.ChangeAt Go.RowKit Go.UtYtkoojoogddndnaa Go.Joins
set_option maxRecDepth 100000 in
set_option maxHeartbeats 4000000 in
theorem walk (w : World) (y : TA) (t : BT) (hB : TabAt w w.heap.size y t) (A : Option Addr) (c : Nat) (l : List Int) (hc : l.length ≤ c) (_hm : c ≤ maxLen) (hR : Row w w.heap.size A (ints l)) (a : Int) (ha : -9223372036854775808 ≤ a ∧ a ≤ 9223372036854775807) :
    Calls Try.prog 6 #[y.val t, .slice A l.length c, .int .i64 a] w fun e w' => e = .returned (.bool true) ∧ Below w.heap.size w w' := by
  have HTB := Lib.hid hB
  have HL := Lib.hid hR
  have CF := Lib.hid (fun (u : World) (hu : Below w.heap.size w u) (v : Bool) (hv : v = true ↔ smT t ∧ l.length ≤ 40) => few31_any y t A l.length c u (hB.below hu).lt v hv)
  have CV := Lib.hid (fun (u : World) (hu : Below w.heap.size w u) (hs : smT t ∧ l.length ≤ 40) (v : Bool) (hv : v = true ↔ validT t) => valid29_any y t u (hB.below hu).lt ⟨by have := hs.1.1.1; omega, by have := hs.1.1.2; omega⟩ v hv)
  have CS := Lib.hid (fun (u : World) (hu : Below w.heap.size w u) (hs : smT t ∧ l.length ≤ 40) (m : Nat) (ha : a = (m : Int)) (hg : (0 ≤ a ∧ a ≤ (l.length : Int)) ∧ fitsL t l ∧ validT t) => start_any y t A c l a u (hB.below hu).lt ⟨by have := hs.1.1.1; omega, by have := hs.1.1.2; omega⟩ (hR.below hu).lt (by omega) (startN t.ln l m).1 (startN t.ln l m).2 (fun _ => by rw [ha]; simp) (fun hn => absurd hg hn))
  have CT := Lib.hid (fun (u : World) (hu : Below w.heap.size w u) (hs : smT t ∧ l.length ≤ 40) (m : Nat) (ha : a = (m : Int)) (hg : (0 ≤ a ∧ a ≤ (l.length : Int)) ∧ fitsL t l ∧ validT t) => state_any y t A c l a u (hB.below hu).lt ⟨by have := hs.1.1.1; omega, by have := hs.1.1.2; omega⟩ (hR.below hu).lt (by omega) hc (runA t.ln 0 (l.take m)) (fun _ => by rw [ha]; simp) (fun hn => absurd hg hn))
  have CL := Lib.hid (fun (u : World) (hu : Below w.heap.size w u) (hs : smT t ∧ l.length ≤ 40) => rleft_any y t A c l u (hB.below hu).lt ⟨by have := hs.1.1.1; omega, by have := hs.1.1.2; omega⟩ (hR.below hu).lt (by omega))
  unfold TA.val at CF CV CS CT CL ⊢
  unfold RetI at CL
  obtain ⟨w1, hw1, HB1, HK1⟩ := boxT w 28 y t
  obtain ⟨q0, q1, q2, q3, q4, q5, ql⟩ := tab6 HK1.out
  obtain ⟨n, hn⟩ : ∃ n, l.length = n := ⟨_, rfl⟩
  have HN := Lib.hid hn
  have HLC := Lib.hid hc
  clear hB hR _hm hc
  by_cases hs : smT t ∧ l.length ≤ 40
  case neg =>
    have CF1 := Lib.hid (CF.out w1 HB1.out false ⟨fun h => (by cases h), fun h => absurd h hs⟩)
    rw [hn] at CF1 ⊢
    clear CF CV CS CT CL hs hn
    go_enter Try.func6, Try.ntmps6
    go_upto_region 1 with fail
    rw [← hw1]
    clear hw1
    go_wp2_with fail
    refine (CF1.out).mono ?_
    rintro e w2 ⟨rfl, hb2⟩
    have HB2 := Lib.hid (HB1.out.trans (hb2.mono HB1.out.size))
    have HK2 := Lib.hid (HK1.out.after hb2)
    clear hb2 q0 q1 q2 q3 q4 q5 ql
    go_wp2_with fail
    refine (alive_any _).mono ?_
    rintro e w3 ⟨rfl, hb3⟩
    have HB3 := Lib.hid (HB2.out.trans (hb3.mono HB2.out.size))
    clear hb3
    go_wp2
    go_ret
    exact ⟨rfl, HB3.out⟩
  case pos =>
  by_cases hv : validT t
  case neg =>
    have CF1 := Lib.hid (CF.out w1 HB1.out true ⟨fun _ => hs, fun _ => rfl⟩)
    have CV1 := Lib.hid (fun (u : World) (hu : Below w.heap.size w u) => CV.out u hu hs false ⟨fun h => (by cases h), fun h => absurd h hv⟩)
    rw [hn] at CF1 ⊢
    clear CF CV CS CT CL hs hn hv
    go_enter Try.func6, Try.ntmps6
    go_upto_region 1 with fail
    rw [← hw1]
    clear hw1
    go_wp2_with fail
    refine (CF1.out).mono ?_
    rintro e w2 ⟨rfl, hb2⟩
    have HB2 := Lib.hid (HB1.out.trans (hb2.mono HB1.out.size))
    have HK2 := Lib.hid (HK1.out.after hb2)
    clear hb2 q0 q1 q2 q3 q4 q5 ql
    obtain ⟨q0, q1, q2, q3, q4, q5, ql⟩ := tab6 HK2.out
    go_wp2_with fail
    refine (CV1.out w2 HB2.out).mono ?_
    rintro e w3 ⟨rfl, hb3⟩
    have HB3 := Lib.hid (HB2.out.trans (hb3.mono HB2.out.size))
    have HK3 := Lib.hid (HK2.out.after hb3)
    clear hb3 q0 q1 q2 q3 q4 q5 ql
    go_wp2_with fail
    refine (alive_any _).mono ?_
    rintro e w4 ⟨rfl, hb4⟩
    have HB4 := Lib.hid (HB3.out.trans (hb4.mono HB3.out.size))
    clear hb4
    go_wp2
    go_ret
    exact ⟨rfl, HB4.out⟩
  case pos =>
    have CF1 := Lib.hid (CF.out w1 HB1.out true ⟨fun _ => hs, fun _ => rfl⟩)
    have CV1 := Lib.hid (fun (u : World) (hu : Below w.heap.size w u) => CV.out u hu hs true ⟨fun _ => hv, fun _ => rfl⟩)
    have CS1 := Lib.hid (fun (u : World) (hu : Below w.heap.size w u) => CS.out u hu hs)
    have CT1 := Lib.hid (fun (u : World) (hu : Below w.heap.size w u) => CT.out u hu hs)
    have CL1 := Lib.hid (fun (u : World) (hu : Below w.heap.size w u) => CL.out u hu hs)
    have hn40 : n ≤ 40 := by have := hs.2; omega
    rw [hn] at CF1 CS1 CT1 CL1 ⊢
    clear CF CV CS CT CL hs hn
    have HV := Lib.hid hv
    clear hv
    by_cases ga : a < 0
    case pos =>
      have d1 : decide (a < 0) = true := decide_eq_true ga
      go_enter Try.func6, Try.ntmps6
      go_upto_region 1 with fail
      rw [← hw1]
      clear hw1
      go_wp2_with fail
      refine (CF1.out).mono ?_
      rintro e w2 ⟨rfl, hb2⟩
      have HB2 := Lib.hid (HB1.out.trans (hb2.mono HB1.out.size))
      have HK2 := Lib.hid (HK1.out.after hb2)
      clear hb2 q0 q1 q2 q3 q4 q5 ql
      obtain ⟨q0, q1, q2, q3, q4, q5, ql⟩ := tab6 HK2.out
      go_wp2_with fail
      refine (CV1.out w2 HB2.out).mono ?_
      rintro e w3 ⟨rfl, hb3⟩
      have HB3 := Lib.hid (HB2.out.trans (hb3.mono HB2.out.size))
      have HK3 := Lib.hid (HK2.out.after hb3)
      clear hb3 q0 q1 q2 q3 q4 q5 ql
      go_wp2_with fail
      refine (alive_any _).mono ?_
      rintro e w4 ⟨rfl, hb4⟩
      have HB4 := Lib.hid (HB3.out.trans (hb4.mono HB3.out.size))
      clear hb4
      go_wp2
      go_ret
      exact ⟨rfl, HB4.out⟩
    case neg =>
      have d1 : decide (a < 0) = false := decide_eq_false ga
      by_cases gb : (n : Int) < a
      case pos =>
        have d2 : decide ((n : Int) < a) = true := decide_eq_true gb
        go_enter Try.func6, Try.ntmps6
        go_upto_region 1 with fail
        rw [← hw1]
        clear hw1
        go_wp2_with fail
        refine (CF1.out).mono ?_
        rintro e w2 ⟨rfl, hb2⟩
        have HB2 := Lib.hid (HB1.out.trans (hb2.mono HB1.out.size))
        have HK2 := Lib.hid (HK1.out.after hb2)
        clear hb2 q0 q1 q2 q3 q4 q5 ql
        obtain ⟨q0, q1, q2, q3, q4, q5, ql⟩ := tab6 HK2.out
        go_wp2_with fail
        refine (CV1.out w2 HB2.out).mono ?_
        rintro e w3 ⟨rfl, hb3⟩
        have HB3 := Lib.hid (HB2.out.trans (hb3.mono HB2.out.size))
        have HK3 := Lib.hid (HK2.out.after hb3)
        clear hb3 q0 q1 q2 q3 q4 q5 ql
        go_wp2_with fail
        refine (alive_any _).mono ?_
        rintro e w4 ⟨rfl, hb4⟩
        have HB4 := Lib.hid (HB3.out.trans (hb4.mono HB3.out.size))
        clear hb4
        go_wp2
        go_ret
        exact ⟨rfl, HB4.out⟩
      case neg =>
        have d2 : decide ((n : Int) < a) = false := decide_eq_false gb
        obtain ⟨m, rfl⟩ : ∃ m : Nat, a = (m : Int) := ⟨a.toNat, by omega⟩
        have hmn : m ≤ n := by omega
        have d2n : decide (n < m) = false := decide_eq_false (by omega)
        have d1n : ((m : Int) < 0) = False := eq_false (by omega)
        obtain ⟨nc, hnc⟩ : ∃ n, t.cls.length = n := ⟨_, rfl⟩
        have HNC := Lib.hid hnc
        rw [hnc] at CF1 CV1 CS1 CT1 CL1 q0 hw1 ⊢
        clear hnc
        go_enter Try.func6, Try.ntmps6
        go_upto_region 1 with fail
        rw [← hw1]
        clear hw1
        go_wp2_with fail
        refine (CF1.out).mono ?_
        rintro e w2 ⟨rfl, hb2⟩
        have HB2 := Lib.hid (HB1.out.trans (hb2.mono HB1.out.size))
        have HK2 := Lib.hid (HK1.out.after hb2)
        clear hb2 q0 q1 q2 q3 q4 q5 ql
        obtain ⟨q0, q1, q2, q3, q4, q5, ql⟩ := tab6 HK2.out
        rw [HNC.out] at q0
        go_wp2_with fail
        refine (CV1.out w2 HB2.out).mono ?_
        rintro e w3 ⟨rfl, hb3⟩
        have HB3 := Lib.hid (HB2.out.trans (hb3.mono HB2.out.size))
        have HK3 := Lib.hid (HK2.out.after hb3)
        clear hb3 q0 q1 q2 q3 q4 q5 ql
        obtain ⟨q0, q1, q2, q3, q4, q5, ql⟩ := tab6 HK3.out
        rw [HNC.out] at q0
        go_wp2
        go_loopw [35] (fun i wr => ∃ k : Nat, k ≤ n ∧ i = .int .i64 (k : Int) ∧ Hid (∀ y ∈ l.take k, 0 ≤ y ∧ y < (nc : Int)) ∧ wr = w3) (fun i _ => n - (intOf i).toNat)
        case atStart => exact ⟨0, by omega, rfl, fun r hr => by simp at hr, rfl⟩
        case round =>
          obtain ⟨k, hk, rfl, HK, hw⟩ := hrel
          subst wr
          by_cases hkn : k < n
          · obtain ⟨b, o, y', rfl, hb, hx, cc⟩ := (HL.out.below HB3.out).at_int (k := k) (by rw [HN.out]; exact hkn)
            have hbl : b < w3.heap.size := by have := HB3.out.size; omega
            by_cases g1 : y' < 0
            · have e1 : decide (y' < 0) = true := decide_eq_true g1
              go_wp2_with fail
              refine (alive_any _).mono ?_
              rintro e w4 ⟨rfl, hb4⟩
              have HB4 := Lib.hid (HB3.out.trans (hb4.mono HB3.out.size))
              clear hb4
              go_wp2
              go_ret
              exact ⟨rfl, HB4.out⟩
            · have e1 : decide (y' < 0) = false := decide_eq_false g1
              by_cases g2 : (nc : Int) ≤ y'
              · have e2 : decide ((nc : Int) ≤ y') = true := decide_eq_true g2
                go_wp2_with fail
                refine (alive_any _).mono ?_
                rintro e w4 ⟨rfl, hb4⟩
                have HB4 := Lib.hid (HB3.out.trans (hb4.mono HB3.out.size))
                clear hb4
                go_wp2
                go_ret
                exact ⟨rfl, HB4.out⟩
              · have e2 : decide ((nc : Int) ≤ y') = false := decide_eq_false g2
                have HK' := Lib.hid (all_snoc (P := fun y : Int => 0 ≤ y ∧ y < (nc : Int)) HK.out hx.out ⟨by omega, by omega⟩)
                go_wp2
                go_roundw
                case rel => exact ⟨k + 1, by omega, by go_num, HK', by trivial⟩
                case measure => simp [intOf]; omega
          · have HA : Hid (fitsL t l) := fun y hy => by rw [HNC.out]; exact all_take HK.out (by rw [HN.out]; omega) y hy
            have HG : Hid ((0 ≤ (m : Int) ∧ (m : Int) ≤ (n : Int)) ∧ fitsL t l ∧ validT t) := Lib.hid ⟨⟨by omega, by omega⟩, HA.out, HV.out⟩
            have HSR := Lib.hid (start_run HG.out.2.2.2.2.2.1 HG.out.2.1 m (by rw [HN.out]; exact hmn))
            have CS2 := CS1.out w3 HB3.out m rfl HG.out
            obtain ⟨f, hf⟩ : ∃ f, (startN t.ln l m).1 = f := ⟨_, rfl⟩
            obtain ⟨s0, hs0⟩ : ∃ s, (startN t.ln l m).2 = s := ⟨_, rfl⟩
            rw [hf, hs0] at HSR CS2
            have hfm : f ≤ m := HSR.out.1
            have hso0 := HG.out.2.2.2.2.2.1
            have hf0 := runA_fit hso0 (l.take f) 0 ⟨by omega, by have := hso0.1.1; omega⟩ (fun c hc => HG.out.2.1 c (List.mem_of_mem_take hc))
            obtain ⟨k0, rfl⟩ : ∃ k : Nat, s0 = (k : Int) := ⟨s0.toNat, by have := HSR.out.2; omega⟩
            have HK0 : Hid ((k0 : Int) = runA t.ln 0 (l.take f)) := Lib.hid HSR.out.2
            replace CS2 := Lib.hid CS2
            obtain ⟨nl, hnl⟩ : ∃ n, t.ln.length = n := ⟨_, rfl⟩
            have HNL := Lib.hid hnl
            clear hf hs0 hso0 hf0 hnl
            have e1 : decide ((f : Int) < 0) = false := decide_eq_false (by omega)
            have e2 : decide ((m : Int) < (f : Int)) = false := decide_eq_false (by omega)
            have e2n : decide (m < f) = false := decide_eq_false (by omega)
            go_wp2_with fail
            refine (CS2.out).mono ?_
            rintro e w4 ⟨rfl, hb4⟩
            have HB4 := Lib.hid (HB3.out.trans (hb4.mono HB3.out.size))
            have HK4 := Lib.hid (HK3.out.after hb4)
            clear hb4 q0 q1 q2 q3 q4 q5 ql
            rw [HNL.out] at CT1 CL1
            go_wp2
            go_loopw [10, 11] (fun s' i wr => ∃ j k : Nat, f ≤ j ∧ j ≤ m ∧ i = .int .i64 (j : Int) ∧ s' = .int .i64 (k : Int) ∧ Hid ((k : Int) = runA t.ln 0 (l.take j)) ∧ ∃ z, wr = w4.drewN z) (fun _ i _ => m - (intOf i).toNat)
            case atStart => exact ⟨f, k0, Nat.le_refl _, hfm, rfl, rfl, HK0, 0, rfl⟩
            case round =>
              obtain ⟨j, k, hfj, hj, rfl, rfl, HJ, z, hw⟩ := hrel
              have hso := HG.out.2.2.2.2.2.1
              have hrf := runA_fit hso (l.take j) 0 ⟨by omega, by have := hso.1.1; omega⟩ (fun c hc => HG.out.2.1 c (List.mem_of_mem_take hc))
              rw [← HJ.out] at hrf
              have hkl : k < t.ln.length := by omega
              by_cases hjm : j < m
              · obtain ⟨b, o, y', rfl, hb, hy, cy⟩ := (HL.out.below HB4.out).at_int (k := j) (by rw [HN.out]; omega)
                have HY := HG.out.2.1 y' (List.mem_of_getElem? hy.out)
                obtain ⟨yn, rfl⟩ : ∃ k : Nat, y' = (k : Int) := ⟨y'.toNat, by omega⟩
                obtain ⟨b3, o3, b4, o4, c4, hA, hb3, cc1, hb4, cc2, l1, l2⟩ := aut_at ((HTB.out.below HB4.out).2.2.1.1.1) hso (s := k) (c := yn) hkl (by omega)
                obtain ⟨lo, hi⟩ := dl_fit hso (s := (k : Int)) (c := (yn : Int)) ⟨by omega, by omega⟩ HY
                obtain ⟨k', hk'⟩ : ∃ k' : Nat, dl t.ln (k : Int) (yn : Int) = (k' : Int) := ⟨(dl t.ln (k : Int) (yn : Int)).toNat, by omega⟩
                have HJ' : Hid ((k' : Int) = runA t.ln 0 (l.take (j + 1))) := Lib.hid (by
                  obtain ⟨g1, g2⟩ := List.getElem?_eq_some_iff.1 hy.out
                  rw [List.take_succ_eq_append_getElem g1, g2, runA_snoc, ← HJ.out, hk'])
                rw [hk'] at cc2
                obtain ⟨p0, p1, p2, p3, p4, p5, pl⟩ := tab6 HK4.out
                rw [hA, HNL.out] at p2
                rw [HNL.out] at hkl
                have gyn : yn < nc := by rw [← HNC.out]; omega
                rw [HNC.out] at cc1 l1
                have hjn : j < n := by omega
                have e3 : decide ((k : Int) < 0) = false := decide_eq_false (by omega)
                have e4 : decide ((nl : Int) ≤ (k : Int)) = false := decide_eq_false (by omega)
                have e4n : decide (nl ≤ k) = false := decide_eq_false (by omega)
                have hbs4 := HB4.out.size
                have hq1 : b < w4.heap.size := by omega
                have hq2 : b3 < w4.heap.size := by omega
                have hq3 : b4 < w4.heap.size := by omega
                clear hso hrf HY lo hi hk' hA p0 p1 p3 p4 p5
                subst hw
                go_wp2
                go_quiet (fail)
                go_wp2
                go_roundw
                case rel => exact ⟨j + 1, k', by omega, by omega, by go_num, rfl, HJ', _, rfl⟩
                case measure => simp [intOf] <;> omega
              · obtain rfl : j = m := by omega
                have HFI : Hid (fitsL t l ∧ validT t) := Lib.hid HG.out.2
                have HLL : Hid (lefL t l = lefts t.ln l) := Lib.hid (by unfold lefL; rw [if_pos (by first | exact HFI.out | exact ⟨HFI.out.2, HFI.out.1⟩)])
                obtain ⟨L, hL⟩ : ∃ L, lefL t l = L := ⟨_, rfl⟩
                have HLx : Hid (L.length = n + 1 ∧ L[j]? = some (k : Int)) := Lib.hid (by
                  rw [← hL, HLL.out]
                  unfold lefts
                  refine ⟨by simp [HN.out], ?_⟩
                  rw [List.getElem?_map, List.getElem?_range (by rw [HN.out]; omega), HJ.out]
                  rfl)
                have CL2 := CL1.out
                rw [hL] at CL2
                obtain ⟨N2, hN2⟩ : ∃ n, L.length = n := ⟨_, rfl⟩
                rw [hN2] at CL2
                have HN2 : Hid (L.length = N2) := Lib.hid hN2
                have hN2v : N2 = n + 1 := by rw [← hN2]; exact HLx.out.1
                replace CL2 := Lib.hid CL2
                have CT2 := fun (u : World) (hu : Below w.heap.size w u) => CT1.out u hu j rfl HG.out
                simp only [← HJ.out] at CT2
                replace CT2 := Lib.hid CT2
                have HB4z : Hid (Below w.heap.size w wr) := Lib.hid (by rw [hw]; exact below_drewN HB4.out _)
                have HK4z : Hid (Blk wr w.heap.size 28 (y.cs t)) := Lib.hid (by rw [hw]; exact HK4.out.drewN _)
                obtain ⟨q0, q1, q2, q3, q4, q5, ql⟩ := tab6 HK4z.out
                rw [HNC.out] at q0
                rw [HNL.out] at q2
                have e5 : decide ((j : Int) < (N2 : Int)) = true := decide_eq_true (by omega)
                have e5n : decide (j < N2) = true := decide_eq_true (by omega)
                clear hL hN2 hw hso hrf
                go_wp2_with fail
                refine (CL2.out wr HB4z.out).mono ?_
                rintro e w5 ⟨A5, c5, rfl, g1, g2, hr5, hb5⟩
                have HB5 := Lib.hid (HB4z.out.trans (hb5.mono HB4z.out.size))
                have HK5 := Lib.hid (HK4z.out.after hb5)
                have HR5 := Lib.hid hr5
                clear hr5 hb5 g1 g2 q0 q1 q2 q3 q4 q5 ql
                obtain ⟨q0, q1, q2, q3, q4, q5, ql⟩ := tab6 HK5.out
                rw [HNC.out] at q0
                rw [HNL.out] at q2
                go_wp2_with fail
                refine (CT2.out w5 HB5.out).mono ?_
                rintro e w6 ⟨rfl, hb6⟩
                have HB6 := Lib.hid (HB5.out.trans (hb6.mono HB5.out.size))
                obtain ⟨b6, o6, v6, rfl, hb6l, hx6, cc6⟩ := (HR5.out.below hb6).lt.at_int (k := j) (by rw [HN2.out]; omega)
                obtain rfl : v6 = (k : Int) := by
                  have h1 := hx6.out
                  rw [HLx.out.2] at h1
                  exact (Option.some.inj h1).symm
                have hj2 : j < N2 := by omega
                clear hb6 q0 q1 q2 q3 q4 q5 ql
                go_wp2_with fail
                refine (alive_any _).mono ?_
                rintro e w7 ⟨rfl, hb7⟩
                have HB7 := Lib.hid (HB6.out.trans (hb7.mono HB6.out.size))
                clear hb7
                go_wp2
                go_ret
                exact ⟨rfl, HB7.out⟩
theorem own : ownKnob Try.prog.godebug = none := by kernel_rfl
theorem laidOut : laidOutB Try.prog = true := by kernel_rfl
set_option maxRecDepth 100000 in
theorem lifted (os : Os) (started : os.Started) (H : Type) (enc : TypeId × Value → H) :
    ReturnsInHanded {} Try.checked os 6 .any (Rows.anywhereReadsSpec.pre6 enc Try.prog Try.f6 Rows.anywhereReadsRow.domain false) (Rows.anywhereReadsSpec.post enc Try.prog Try.f6 false true false false) := by
  refine returnsInHanded_of_change (C := Try.checked) own started (by kernel_rfl) Try.func6
    (ChangeSpec.witness6 (enc := enc) (C := Try.checked) false ⟨#[], #[.agg #[.slice none 0 0, .slice none 0 0, .slice none 0 0, .slice none 0 0, .slice none 0 0, .slice none 0 0], .slice none 0 0, .int .i64 0], []⟩ 8 (by kernel_rfl) (by kernel_rfl) (by kernel_rfl) (by kernel_rfl)) ?_
  intro W base args ds gs before hval0 hW hcnd _
  have hval : ∀ (j : Nat) t v, Try.f6.params[j]? = some t → args[j]? = some v → Value.okWide Try.prog W .any base t v := hval0
  have hW' := hW
  obtain ⟨p, q, hA0, hV, rfl, hfz, hnd⟩ := hW
  have hA : DataW.TrodAll enc Try.prog W 0 (fun _ => true) true Try.f6.params.toList args.toList ds p := hA0
  rw [Try.params6] at hA hval
  obtain ⟨v0, v1, v2, d0, d1, d2, p0, p1, p2, rfl, rfl, rfl, h0, h1, h2⟩ := trodAll_three hA
  obtain ⟨rfl, rfl⟩ := trodVars_none hV
  obtain ⟨y0, t0, rfl, hB0⟩ := open_table (hval 0 28 v0 rfl rfl) h0
  obtain ⟨ad1, le1, ca1, rfl⟩ := okWide_slice Try.underlying23 (hval 1 23 v1 rfl rfl)
  obtain ⟨fu1, hf1⟩ := h1
  obtain ⟨A1, c1, xs1, hv1, hc1, hm1, hR1, -⟩ := open_row (v := .slice ad1 le1 ca1) Try.underlying23 Try.underlying3 (by kernel_rfl) hf1
  injection hv1 with ea1 eb1 ec1
  subst ea1 eb1 ec1
  obtain ⟨s2, rfl, rfl, rfl, ws2⟩ := open_int Try.underlying3 (hval 2 3 v2 rfl rfl) h2
  refine (walk W y0 t0 hB0 ad1 ca1 xs1 hc1 hm1 hR1 s2 (wf_i64 ws2)).mono fun e W' ⟨he, hb⟩ => ⟨_, he, ?_⟩
  exact law_post laidOut (by rw [Try.params6]; exact of_decide_eq_true (by kernel_rfl)) rfl rfl Try.underlying4 hW' rfl hb
theorem holds : Rows.AnywhereReadsSaid :=
  OpenClaim.holds_of_wide 6 Try.f6 rfl rfl rfl rfl rfl rfl rfl ⟨rfl, rfl, rfl, rfl, rfl⟩ rfl rfl rfl rfl rfl (by kernel_rfl) Try.func6 (by kernel_rfl)
    (of_decide_eq_true (by kernel_rfl)) (by unfold Func.isWrapper; first | (rw [if_pos (by decide +kernel)]; kernel_rfl) | (rw [if_neg (by decide +kernel)]; exact ⟨rfl, rfl⟩))
    (fun os started H enc _ => lifted os started H enc)
end Go.Proofs.Ytkoojoogddndnaa.LReads
namespace Go.Proofs.Ytkoojoogddndnaa
theorem anywhereReads_holds : Rows.AnywhereReadsSaid := LReads.holds
end Go.Proofs.Ytkoojoogddndnaa
