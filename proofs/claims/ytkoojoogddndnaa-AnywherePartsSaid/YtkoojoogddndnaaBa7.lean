/-
  ref31.State.
-/
import Derived.Test.YtkoojoogddndnaaBa6
namespace Go.Proofs.Ytkoojoogddndnaa
open Go.RowKit Go.UtYtkoojoogddndnaa
set_option maxRecDepth 100000 in
set_option maxHeartbeats 2000000 in
theorem rstate_any (x : TA) (t : BT) (A : Option Addr) (c : Nat) (l : List Int) (a : Int) (w : World) (h : TabAt w w.heap.size x t) (hsm : t.cls.length ≤ 1000 ∧ t.act.length ≤ 1000) (hl : Row w w.heap.size A (ints l)) (hll : l.length ≤ 100000) (r1 : Int)
    (hv : (0 ≤ a ∧ a ≤ (l.length : Int)) ∧ fitsL t l ∧ validT t → r1 = runA t.ln 0 (l.take a.toNat)) (hnv : ¬ ((0 ≤ a ∧ a ≤ (l.length : Int)) ∧ fitsL t l ∧ validT t) → r1 = 0) :
    Calls Try.prog 18 #[x.val t, .slice A l.length c, .int .i64 a] w fun e w' => e = .returned (.int .i64 r1) ∧ Below w.heap.size w w' := by
  have CU := Lib.hid (fun (u : World) (hu : Below w.heap.size w u) (v : Bool) (hv' : v = true ↔ (0 ≤ a ∧ a ≤ (l.length : Int)) ∧ fitsL t l ∧ validT t) => usable31_any x t A c l a u (h.below hu).lt hsm (hl.below hu).lt hll v hv')
  have HT := Lib.hid h
  unfold TA.val at CU ⊢
  have HV := Lib.hid hv
  have HNV := Lib.hid hnv
  have HL := Lib.hid hl
  obtain ⟨w1, hw1, HB1, HK1⟩ := boxT w 28 x t
  obtain ⟨q0, q1, q2, q3, q4, q5, ql⟩ := tab6 HK1.out
  obtain ⟨n, hn⟩ : ∃ n, l.length = n := ⟨_, rfl⟩
  have HN := Lib.hid hn
  rw [hn] at hll HV HNV CU
  rw [hn]
  clear h hv hl hn hnv
  by_cases gv : (0 ≤ a ∧ a ≤ (n : Int)) ∧ fitsL t l ∧ validT t
  case neg =>
    obtain rfl := HNV.out gv
    go_enter Try.func18, Try.ntmps18
    go_upto_region 1 with fail
    rw [← hw1]
    clear hw1
    go_wp2_with fail
    refine (CU.out w1 HB1.out false ⟨fun h => (by cases h), fun h => absurd h gv⟩).mono ?_
    rintro e w2 ⟨rfl, hb2⟩
    have HB2 := Lib.hid (HB1.out.trans (hb2.mono HB1.out.size))
    clear hb2
    go_wp2
    go_ret
    exact ⟨rfl, HB2.out⟩
  case pos =>
    obtain ⟨m, rfl⟩ : ∃ m : Nat, a = (m : Int) := ⟨a.toNat, by omega⟩
    have hmn : m ≤ n := by omega
    have HR : Hid (r1 = runA t.ln 0 (l.take m)) := Lib.hid (by have := HV.out gv; simpa using this)
    have HG := Lib.hid gv
    clear gv
    go_enter Try.func18, Try.ntmps18
    go_upto_region 1 with fail
    rw [← hw1]
    clear hw1
    go_wp2_with fail
    refine (CU.out w1 HB1.out true ⟨fun _ => HG.out, fun _ => rfl⟩).mono ?_
    rintro e w2 ⟨rfl, hb2⟩
    have HB2 := Lib.hid (HB1.out.trans (hb2.mono HB1.out.size))
    have HK2 := Lib.hid (HK1.out.after hb2)
    have hbs2 := HB2.out.size
    clear hb2 q0 q1 q2 q3 q4 q5 ql
    obtain ⟨nl, hnl⟩ : ∃ n, t.ln.length = n := ⟨_, rfl⟩
    have HNL := Lib.hid hnl
    clear hnl
    go_wp2
    go_loopw [7, 8] (fun s i wr => ∃ j k : Nat, j ≤ m ∧ i = .int .i64 (j : Int) ∧ s = .int .i64 (k : Int) ∧ Hid ((k : Int) = runA t.ln 0 (l.take j)) ∧ ∃ z, wr = w2.drewN z) (fun _ i _ => m - (intOf i).toNat)
    case atStart => exact ⟨0, 0, Nat.zero_le _, rfl, rfl, Lib.hid (by simp [runA]), 0, rfl⟩
    case round =>
      obtain ⟨j, k, hj, rfl, rfl, HJ, z, hw⟩ := hrel
      by_cases hjm : j < m
      · obtain ⟨b, o, y, rfl, hb, hy, cy⟩ := (HL.out.below HB2.out).at_int (k := j) (by rw [HN.out]; omega)
        have HY := HG.out.2.1 y (List.mem_of_getElem? hy.out)
        obtain ⟨yn, rfl⟩ : ∃ k : Nat, y = (k : Int) := ⟨y.toNat, by omega⟩
        have hso := HG.out.2.2.2.2.2.1
        have hf := runA_fit hso (l.take j) 0 ⟨by omega, by have := hso.1.1; omega⟩ (fun c hc => HG.out.2.1 c (List.mem_of_mem_take hc))
        rw [← HJ.out] at hf
        have hkl : k < t.ln.length := by omega
        obtain ⟨b3, o3, b4, o4, c4, hA, hb3, cc1, hb4, cc2, l1, l2⟩ := aut_at ((HT.out.below HB2.out).2.2.1.1.1) hso (s := k) (c := yn) hkl (by omega)
        obtain ⟨lo, hi⟩ := dl_fit hso (s := (k : Int)) (c := (yn : Int)) ⟨by omega, by omega⟩ HY
        obtain ⟨k', hk'⟩ : ∃ k' : Nat, dl t.ln (k : Int) (yn : Int) = (k' : Int) := ⟨(dl t.ln (k : Int) (yn : Int)).toNat, by omega⟩
        have HJ' : Hid ((k' : Int) = runA t.ln 0 (l.take (j + 1))) := Lib.hid (by
          obtain ⟨g1, g2⟩ := List.getElem?_eq_some_iff.1 hy.out
          rw [List.take_succ_eq_append_getElem g1, g2, runA_snoc, ← HJ.out, hk'])
        rw [hk'] at cc2
        obtain ⟨p0, p1, p2, p3, p4, p5, pl⟩ := tab6 HK2.out
        rw [hA, HNL.out] at p2
        rw [HNL.out] at hkl
        have gyn : yn < t.cls.length := by omega
        obtain ⟨nc, hnc⟩ : ∃ n, t.cls.length = n := ⟨_, rfl⟩
        rw [hnc] at cc1 gyn l1
        have hjn : j < n := by omega
        have hq1 : b < w2.heap.size := by omega
        have hq2 : b3 < w2.heap.size := by omega
        have hq3 : b4 < w2.heap.size := by omega
        clear hso hf HY lo hi hk' hA hnc p0 p1 p3 p4 p5
        subst hw
        go_wp2
        go_quiet (fail)
        go_wp2
        go_roundw
        case rel => exact ⟨j + 1, k', by omega, by go_num, rfl, HJ', _, rfl⟩
        case measure => simp [intOf] <;> omega
      · obtain rfl : j = m := by omega
        have HE : Hid (r1 = (k : Int)) := Lib.hid (by rw [HR.out, HJ.out])
        obtain rfl := HE.out
        subst hw
        go_wp2
        go_ret
        exact ⟨rfl, below_drewN HB2.out _⟩
end Go.Proofs.Ytkoojoogddndnaa
