/-
  anywhere.State .
-/
import Derived.Test.YtkoojoogddndnaaBa7
namespace Go.Proofs.Ytkoojoogddndnaa
open Go.RowKit Go.UtYtkoojoogddndnaa
set_option maxRecDepth 100000 in
set_option maxHeartbeats 2000000 in
theorem state_any (x : TA) (t : BT) (A : Option Addr) (c : Nat) (l : List Int) (a : Int) (w : World) (h : TabAt w w.heap.size x t) (hsm : t.cls.length ≤ 1000 ∧ t.act.length ≤ 1000) (hl : Row w w.heap.size A (ints l)) (hll : l.length ≤ 100000) (hlc : l.length ≤ c) (r1 : Int)
    (hv : (0 ≤ a ∧ a ≤ (l.length : Int)) ∧ fitsL t l ∧ validT t → r1 = runA t.ln 0 (l.take a.toNat)) (hnv : ¬ ((0 ≤ a ∧ a ≤ (l.length : Int)) ∧ fitsL t l ∧ validT t) → r1 = 0) :
    Calls Try.prog 17 #[x.val t, .slice A l.length c, .int .i64 a] w fun e w' => e = .returned (.int .i64 r1) ∧ Below w.heap.size w w' := by
  have CU := Lib.hid (fun (u : World) (hu : Below w.heap.size w u) (v : Bool) (hv' : v = true ↔ (0 ≤ a ∧ a ≤ (l.length : Int)) ∧ fitsL t l ∧ validT t) => permitted_any x t A c l a u (h.below hu).lt hsm (hl.below hu).lt hll v hv')
  have HT := Lib.hid h
  have CST := Lib.hid (fun (u : World) (hu : Below w.heap.size w u) (m : Nat) (ha : a = (m : Int)) (hg : (0 ≤ a ∧ a ≤ (l.length : Int)) ∧ fitsL t l ∧ validT t) => start_any x t A c l a u (h.below hu).lt hsm (hl.below hu).lt hll (startN t.ln l m).1 (startN t.ln l m).2 (fun _ => by rw [ha]; simp) (fun hn => absurd hg hn))
  unfold TA.val at CU CST ⊢
  have HV := Lib.hid hv
  have HNV := Lib.hid hnv
  have HL := Lib.hid hl
  obtain ⟨w1, hw1, HB1, HK1⟩ := boxT w 28 x t
  obtain ⟨q0, q1, q2, q3, q4, q5, ql⟩ := tab6 HK1.out
  obtain ⟨n, hn⟩ : ∃ n, l.length = n := ⟨_, rfl⟩
  have HN := Lib.hid hn
  rw [hn] at hll hlc HV HNV CU CST
  rw [hn]
  clear h hv hl hn hnv
  by_cases gv : (0 ≤ a ∧ a ≤ (n : Int)) ∧ fitsL t l ∧ validT t
  case neg =>
    obtain rfl := HNV.out gv
    go_enter Try.func17, Try.ntmps17
    go_upto_region 1 with fail
    rw [← hw1]
    clear hw1
    go_wp2_with fail
    refine (CU.out w1 HB1.out false ⟨fun h => (by cases h), fun h => absurd h gv⟩).mono ?_
    rintro e w2 ⟨rfl, hb2⟩
    have HB2 := Lib.hid (HB1.out.trans (hb2.mono HB1.out.size))
    clear hb2
    go_wp2
    go_ret
    exact ⟨rfl, HB2.out⟩
  case pos =>
    obtain ⟨m, rfl⟩ : ∃ m : Nat, a = (m : Int) := ⟨a.toNat, by omega⟩
    have hmn : m ≤ n := by omega
    have HR : Hid (r1 = runA t.ln 0 (l.take m)) := Lib.hid (by have := HV.out gv; simpa using this)
    have HG := Lib.hid gv
    clear gv
    go_enter Try.func17, Try.ntmps17
    go_upto_region 1 with fail
    rw [← hw1]
    clear hw1
    go_wp2_with fail
    refine (CU.out w1 HB1.out true ⟨fun _ => HG.out, fun _ => rfl⟩).mono ?_
    rintro e w2 ⟨rfl, hb2⟩
    have HB2 := Lib.hid (HB1.out.trans (hb2.mono HB1.out.size))
    have HK2 := Lib.hid (HK1.out.after hb2)
    have hbs2 := HB2.out.size
    clear hb2 q0 q1 q2 q3 q4 q5 ql
    obtain ⟨nl, hnl⟩ : ∃ n, t.ln.length = n := ⟨_, rfl⟩
    have HNL := Lib.hid hnl
    clear hnl
    have HSR := Lib.hid (start_run HG.out.2.2.2.2.2.1 HG.out.2.1 m (by rw [HN.out]; exact hmn))
    have CS2 := CST.out w2 HB2.out m rfl HG.out
    obtain ⟨f, hf⟩ : ∃ f, (startN t.ln l m).1 = f := ⟨_, rfl⟩
    obtain ⟨s, hs⟩ : ∃ s, (startN t.ln l m).2 = s := ⟨_, rfl⟩
    rw [hf, hs] at HSR CS2
    have hfm : f ≤ m := HSR.out.1
    have hfn : f ≤ n := by omega
    have gf1 : (f : Int) ≤ (m : Int) := by omega
    have gm1 : (m : Int) ≤ (n : Int) := by omega
    have gmc : m ≤ c := by omega
    have gmc1 : (m : Int) ≤ (c : Int) := by omega
    replace CS2 := Lib.hid CS2
    clear hf hs
    by_cases hfe : f = m
    case pos =>
      subst hfe
      have HE : Hid (r1 = s) := Lib.hid (by rw [HR.out, HSR.out.2])
      have hz0 : f - f = 0 := by omega
      obtain ⟨q0, q1, q2, q3, q4, q5, ql⟩ := tab6 HK2.out
      go_wp2_with fail
      refine CS2.out.mono ?_
      rintro e w3 ⟨rfl, hb3⟩
      have HB3 := Lib.hid (HB2.out.trans (hb3.mono HB2.out.size))
      have HK3 := Lib.hid (HK2.out.after hb3)
      clear hb3 q0 q1 q2 q3 q4 q5 ql
      go_wp2
      all_goals (
        go_loopw [8, 28] (fun s' i wr => s' = .int .i64 s ∧ i = .int .i64 0 ∧ wr = w3) (fun _ _ _ => 0)
        case atStart => exact ⟨rfl, rfl, rfl⟩
        case round =>
          obtain ⟨rfl, rfl, rfl⟩ := hrel
          go_wp2
          go_ret
          exact ⟨by rw [HE.out]; rfl, HB3.out⟩)
    case neg =>
      obtain ⟨d, hd⟩ : ∃ d, m - f = d := ⟨_, rfl⟩
      have hso0 := HG.out.2.2.2.2.2.1
      have hf0 := runA_fit hso0 (l.take f) 0 ⟨by omega, by have := hso0.1.1; omega⟩ (fun c hc => HG.out.2.1 c (List.mem_of_mem_take hc))
      obtain ⟨k0, rfl⟩ : ∃ k : Nat, s = (k : Int) := ⟨s.toNat, by have := HSR.out.2; omega⟩
      have HK0 : Hid ((k0 : Int) = runA t.ln 0 (l.take (f + 0))) := Lib.hid HSR.out.2
      clear hso0 hf0
      have hcf : ¬ c = f := by omega
      have hcf2 : f < c := by omega
      have hcf3 : ¬ c - f = 0 := by omega
      obtain ⟨b, o, y0, rfl, hb, _, _⟩ := (HL.out.below HB2.out).at_int (k := f) (by rw [HN.out]; omega)
      obtain ⟨q0, q1, q2, q3, q4, q5, ql⟩ := tab6 HK2.out
      go_wp2_with fail
      refine CS2.out.mono ?_
      rintro e w3 ⟨rfl, hb3⟩
      have HB3 := Lib.hid (HB2.out.trans (hb3.mono HB2.out.size))
      have HK3 := Lib.hid (HK2.out.after hb3)
      clear hb3 q0 q1 q2 q3 q4 q5 ql
      go_wp2
      go_loopw [8, 28] (fun s' i wr => ∃ j k : Nat, j ≤ d ∧ i = .int .i64 (j : Int) ∧ s' = .int .i64 (k : Int) ∧ Hid ((k : Int) = runA t.ln 0 (l.take (f + j))) ∧ wr = w3) (fun _ i _ => d - (intOf i).toNat)
      case atStart => exact ⟨0, k0, Nat.zero_le _, rfl, rfl, HK0, rfl⟩
      case round =>
        obtain ⟨j, k, hj, rfl, rfl, HJ, hw⟩ := hrel
        by_cases hjm : j < d
        · obtain ⟨b', o', y, e, hb', hy, cy⟩ := (HL.out.below HB3.out).at_int (k := f + j) (by rw [HN.out]; omega)
          cases e
          have HY := HG.out.2.1 y (List.mem_of_getElem? hy.out)
          obtain ⟨yn, rfl⟩ : ∃ k : Nat, y = (k : Int) := ⟨y.toNat, by omega⟩
          have hso := HG.out.2.2.2.2.2.1
          have hf := runA_fit hso (l.take (f + j)) 0 ⟨by omega, by have := hso.1.1; omega⟩ (fun c hc => HG.out.2.1 c (List.mem_of_mem_take hc))
          rw [← HJ.out] at hf
          have hkl : k < t.ln.length := by omega
          obtain ⟨b3, o3, b4, o4, c4, hA, hb3, cc1, hb4, cc2, l1, l2⟩ := aut_at ((HT.out.below HB3.out).2.2.1.1.1) hso (s := k) (c := yn) hkl (by omega)
          obtain ⟨lo, hi⟩ := dl_fit hso (s := (k : Int)) (c := (yn : Int)) ⟨by omega, by omega⟩ HY
          obtain ⟨k', hk'⟩ : ∃ k' : Nat, dl t.ln (k : Int) (yn : Int) = (k' : Int) := ⟨(dl t.ln (k : Int) (yn : Int)).toNat, by omega⟩
          have HJ' : Hid ((k' : Int) = runA t.ln 0 (l.take (f + (j + 1)))) := Lib.hid (by
            obtain ⟨g1, g2⟩ := List.getElem?_eq_some_iff.1 hy.out
            rw [show f + (j + 1) = f + j + 1 by omega, List.take_succ_eq_append_getElem g1, g2, runA_snoc, ← HJ.out, hk'])
          rw [hk'] at cc2
          obtain ⟨p0, p1, p2, p3, p4, p5, pl⟩ := tab6 HK3.out
          rw [hA, HNL.out] at p2
          rw [HNL.out] at hkl
          have gyn : yn < t.cls.length := by omega
          obtain ⟨nc, hnc⟩ : ∃ n, t.cls.length = n := ⟨_, rfl⟩
          rw [hnc] at cc1 gyn l1
          have hjn : f + j < n := by omega
          have cy' := cy
          rw [← Nat.add_assoc] at cy'
          have hq1 : b < w3.heap.size := by omega
          have hq2 : b3 < w3.heap.size := by omega
          have hq3 : b4 < w3.heap.size := by omega
          clear hso hf HY lo hi hk' hA hnc p0 p1 p3 p4 p5
          subst hw
          go_wp2
          go_roundw
          case rel => exact ⟨j + 1, k', by omega, by go_num, rfl, HJ', by trivial⟩
          case measure => simp [intOf] <;> omega
        · obtain rfl : j = d := by omega
          have HE : Hid (r1 = (k : Int)) := Lib.hid (by rw [HR.out, HJ.out, show f + j = m by omega])
          obtain rfl := HE.out
          subst hw
          go_wp2
          go_ret
          exact ⟨rfl, HB3.out⟩
end Go.Proofs.Ytkoojoogddndnaa
