/-
  AnywhereParts: for every input the law returns true, and its arguments read as before. No condition.
-/
import Derived.Test.YtkoojoogddndnaaRows
import Derived.Test.YtkoojoogddndnaaLift
import Derived.Test.YtkoojoogddndnaaBo0
import Derived.Test.YtkoojoogddndnaaBo4
import Derived.BigQuiet
import Derived.Test.YtkoojoogddndnaaBs3
namespace Go.Proofs.Ytkoojoogddndnaa.LParts
open Go.ChangeShapes Go.WideShapes Go.ChangeAt Go.RowKit Go.UtYtkoojoogddndnaa Go.Joins
set_option maxRecDepth 100000 in
set_option maxHeartbeats 4000000 in
theorem walk (w : World) (x : PA) (p : PR) (hP : PrAt w w.heap.size x p) (y : TA) (t : BT) (hB : TabAt w w.heap.size y t) (At : Option Addr) (ct : Nat) (text : List Int) (a : Int) (_hc : text.length ≤ ct) (_hm : ct ≤ maxLen) (hT : Row w w.heap.size At (ints text)) (_ha : -9223372036854775808 ≤ a ∧ a ≤ 9223372036854775807) :
    Calls Try.prog 8 #[x.val p, y.val t, .agg #[.slice At text.length ct, .int .i64 a]] w fun e w' => e = .returned (.bool true) ∧ Below w.heap.size w w' := by
  have CF0 := Lib.hid (fun (u : World) (hu : Below w.heap.size w u) (v : Bool) (hv : v = true ↔ smT t ∧ text.length ≤ 40) => few31_any y t At text.length ct u (hB.below hu).lt v hv)
  have CQ0 := Lib.hid (fun (u : World) (v : Bool) (hv : v = true ↔ p.names.length ≤ 300 ∧ p.spans.length ≤ 16) => few10_any x p 16 u v hv)
  have CAx0 := Lib.hid (fun (u : World) (hu : Below w.heap.size w u) (rl0 rh0 : Int) (ok0 : Bool) (hr : arV (ptsL p t text) a = (rl0, rh0, ok0)) (hs : smT t ∧ text.length ≤ 40) (hp : p.names.length ≤ 300 ∧ p.spans.length ≤ 16) => around_any x p y t At ct text u (hP.below hu).lt (by have := hp.2; omega) (hB.below hu).lt ⟨by have := hs.1.1.1; omega, by have := hs.1.1.2; omega⟩ (hT.below hu).lt (by omega) a rl0 rh0 ok0 hr)
  have CVT0 := Lib.hid (fun (u : World) (hu : Below w.heap.size w u) (v : Bool) (hv : v = true ↔ validT t) (hs : smT t ∧ text.length ≤ 40) (hp : p.names.length ≤ 300 ∧ p.spans.length ≤ 16) => valid29_any y t u (hB.below hu).lt ⟨by have := hs.1.1.1; omega, by have := hs.1.1.2; omega⟩ v hv)
  have CI0 := Lib.hid (fun (u : World) (hu : Below w.heap.size w u) (z : Int) (hs : smT t ∧ text.length ≤ 40) (hp : p.names.length ≤ 300 ∧ p.spans.length ≤ 16) => is_any x p y t At ct text u (hP.below hu).lt (by have := hp.2; omega) (hB.below hu).lt ⟨by have := hs.1.1.1; omega, by have := hs.1.1.2; omega⟩ (hT.below hu).lt (by omega) z)
  unfold TA.val at CF0 CAx0 CVT0 CI0 ⊢
  unfold PA.val at CQ0 CAx0 CI0 ⊢
  obtain ⟨w1, hw1, HB1, HK1⟩ := boxV w 41 #[.slice x.n p.names.length x.cn, .slice x.s p.spans.length x.cs]
  obtain ⟨w2, hw2, HB2', HK2'⟩ := boxT w1 28 y t
  obtain ⟨w3, hw3, HB3', HK3'⟩ := boxV w2 43 #[.slice At text.length ct, .int .i64 a]
  have HB2 := Lib.hid (HB1.out.trans (HB2'.out.mono HB1.out.size))
  have HB3 := Lib.hid (HB2.out.trans (HB3'.out.mono HB2.out.size))
  have hs1 : w1.heap.size = w.heap.size + 1 := by rw [hw1]; simp
  have hs2 : w2.heap.size = w.heap.size + 1 + 1 := by rw [hw2, World.size_alloc, hs1]
  obtain ⟨g, hg⟩ : ∃ g, g = w1.heap.size := ⟨_, rfl⟩
  obtain ⟨gx, hgx⟩ : ∃ g, g = w2.heap.size := ⟨_, rfl⟩
  rw [← hg] at HK2'
  rw [← hgx] at HK3'
  have hgw : g = w.heap.size + 1 := by omega
  have hgxw : gx = w.heap.size + 1 + 1 := by omega
  have HQ3 := Lib.hid ((HK1.out.after HB2'.out).after HB3'.out)
  have HT3 := Lib.hid (HK2'.out.after HB3'.out)
  have HX3 := Lib.hid HK3'.out
  obtain ⟨q0, q1, ql⟩ := blk2 HQ3.out
  obtain ⟨r0, r1, r2, r3, r4, r5, rl⟩ := tab6 HT3.out
  obtain ⟨s0, s1, sl⟩ := blk2 HX3.out
  by_cases hs : smT t ∧ text.length ≤ 40
  case neg =>
    have CF := Lib.hid (CF0.out w3 HB3.out false ⟨fun h => (by cases h), fun h => absurd h hs⟩)
    obtain ⟨n, hn⟩ : ∃ n, text.length = n := ⟨_, rfl⟩
    rw [hn] at CF s0 hw3 ⊢
    clear CF0 CQ0 CAx0 CVT0 CI0 hs hn hB hP hT _hc
    go_enter Try.func8, Try.ntmps8
    go_upto_region 1 with fail
    rw [← hw1, ← hw2, ← hw3, ← hgxw, ← hgw]
    clear hw1 hw2 hw3 hs1 hs2 hg hgw hgx hgxw
    go_wp2_with fail
    refine (CF.out).mono ?_
    rintro e w4 ⟨rfl, hb4⟩
    have HB4 := Lib.hid (HB3.out.trans (hb4.mono HB3.out.size))
    have HQ4 := Lib.hid (HQ3.out.after hb4)
    have HT4 := Lib.hid (HT3.out.after hb4)
    have HX4 := Lib.hid (HX3.out.after hb4)
    clear hb4
    clear q0 q1 ql r0 r1 r2 r3 r4 r5 rl s0 s1 sl
    go_wp2_with fail
    refine (alive_any _).mono ?_
    rintro e w5 ⟨rfl, hb5⟩
    have HB5 := Lib.hid (HB4.out.trans (hb5.mono HB4.out.size))
    clear hb5
    go_wp2
    go_ret
    exact ⟨rfl, HB5.out⟩
  case pos =>
  by_cases hp : p.names.length ≤ 300 ∧ p.spans.length ≤ 16
  case neg =>
    have CF := Lib.hid (CF0.out w3 HB3.out true ⟨fun _ => hs, fun _ => rfl⟩)
    have CQ := Lib.hid (fun u => CQ0.out u false ⟨fun h => (by cases h), fun h => absurd h hp⟩)
    obtain ⟨n, hn⟩ : ∃ n, text.length = n := ⟨_, rfl⟩
    rw [hn] at CF s0 hw3 HX3 ⊢
    clear CF0 CQ0 CAx0 CVT0 CI0 hs hp hn hB hP hT _hc
    go_enter Try.func8, Try.ntmps8
    go_upto_region 1 with fail
    rw [← hw1, ← hw2, ← hw3, ← hgxw, ← hgw]
    clear hw1 hw2 hw3 hs1 hs2 hg hgw hgx hgxw
    go_wp2_with fail
    refine (CF.out).mono ?_
    rintro e w4 ⟨rfl, hb4⟩
    have HB4 := Lib.hid (HB3.out.trans (hb4.mono HB3.out.size))
    have HQ4 := Lib.hid (HQ3.out.after hb4)
    have HT4 := Lib.hid (HT3.out.after hb4)
    have HX4 := Lib.hid (HX3.out.after hb4)
    clear hb4
    clear q0 q1 ql r0 r1 r2 r3 r4 r5 rl s0 s1 sl
    obtain ⟨q0, q1, ql⟩ := blk2 HQ4.out
    obtain ⟨r0, r1, r2, r3, r4, r5, rl⟩ := tab6 HT4.out
    obtain ⟨s0, s1, sl⟩ := blk2 HX4.out
    go_wp2_with fail
    refine (CQ.out w4).mono ?_
    rintro e w5 ⟨rfl, hb5⟩
    have HB5 := Lib.hid (HB4.out.trans (hb5.mono HB4.out.size))
    have HQ5 := Lib.hid (HQ4.out.after hb5)
    have HT5 := Lib.hid (HT4.out.after hb5)
    have HX5 := Lib.hid (HX4.out.after hb5)
    clear hb5
    clear q0 q1 ql r0 r1 r2 r3 r4 r5 rl s0 s1 sl
    go_wp2_with fail
    refine (alive_any _).mono ?_
    rintro e w6 ⟨rfl, hb6⟩
    have HB6 := Lib.hid (HB5.out.trans (hb6.mono HB5.out.size))
    clear hb6
    go_wp2
    go_ret
    exact ⟨rfl, HB6.out⟩
  case pos =>
    have CF := Lib.hid (CF0.out w3 HB3.out true ⟨fun _ => hs, fun _ => rfl⟩)
    have CQ := Lib.hid (fun u => CQ0.out u true ⟨fun _ => hp, fun _ => rfl⟩)
    have CAx := Lib.hid (fun (u : World) (hu : Below w.heap.size w u) (rl0 rh0 : Int) (ok0 : Bool) (hr : arV (ptsL p t text) a = (rl0, rh0, ok0)) => CAx0.out u hu rl0 rh0 ok0 hr hs hp)
    have CVT := Lib.hid (fun (u : World) (hu : Below w.heap.size w u) (v : Bool) (hv : v = true ↔ validT t) => CVT0.out u hu v hv hs hp)
    have CI := Lib.hid (fun (u : World) (hu : Below w.heap.size w u) (z : Int) => CI0.out u hu z hs hp)
    obtain ⟨n, hn⟩ : ∃ n, text.length = n := ⟨_, rfl⟩
    have HN := Lib.hid hn
    have hn40 : n ≤ 40 := by have := hs.2; omega
    rw [hn] at CF s0 hw3 HX3 CAx CI ⊢
    clear CF0 CQ0 CAx0 CVT0 CI0 hp hn hB hP hT _hc hs
    go_enter Try.func8, Try.ntmps8
    go_upto_region 1 with fail
    rw [← hw1, ← hw2, ← hw3, ← hgxw, ← hgw]
    clear hw1 hw2 hw3 hs1 hs2 hg hgw hgx hgxw
    go_wp2_with fail
    refine (CF.out).mono ?_
    rintro e w4 ⟨rfl, hb4⟩
    have HB4 := Lib.hid (HB3.out.trans (hb4.mono HB3.out.size))
    have HQ4 := Lib.hid (HQ3.out.after hb4)
    have HT4 := Lib.hid (HT3.out.after hb4)
    have HX4 := Lib.hid (HX3.out.after hb4)
    clear hb4
    clear q0 q1 ql r0 r1 r2 r3 r4 r5 rl s0 s1 sl
    obtain ⟨q0, q1, ql⟩ := blk2 HQ4.out
    obtain ⟨r0, r1, r2, r3, r4, r5, rl⟩ := tab6 HT4.out
    obtain ⟨s0, s1, sl⟩ := blk2 HX4.out
    go_wp2_with fail
    refine (CQ.out w4).mono ?_
    rintro e w5 ⟨rfl, hb5⟩
    have HB5 := Lib.hid (HB4.out.trans (hb5.mono HB4.out.size))
    have HQ5 := Lib.hid (HQ4.out.after hb5)
    have HT5 := Lib.hid (HT4.out.after hb5)
    have HX5 := Lib.hid (HX4.out.after hb5)
    clear hb5
    clear q0 q1 ql r0 r1 r2 r3 r4 r5 rl s0 s1 sl
    obtain ⟨q0, q1, ql⟩ := blk2 HQ5.out
    obtain ⟨r0, r1, r2, r3, r4, r5, rl⟩ := tab6 HT5.out
    obtain ⟨s0, s1, sl⟩ := blk2 HX5.out
    by_cases hv : validT t
    case neg =>
      go_wp2_with fail
      refine (CVT.out w5 HB5.out false ⟨fun h => (by cases h), fun h => absurd h hv⟩).mono ?_
      rintro e w6 ⟨rfl, hb6⟩
      have HB6 := Lib.hid (HB5.out.trans (hb6.mono HB5.out.size))
      have HQ6 := Lib.hid (HQ5.out.after hb6)
      have HT6 := Lib.hid (HT5.out.after hb6)
      have HX6 := Lib.hid (HX5.out.after hb6)
      clear hb6
      clear q0 q1 ql r0 r1 r2 r3 r4 r5 rl s0 s1 sl
      go_wp2_with fail
      refine (alive_any _).mono ?_
      rintro e w7 ⟨rfl, hb7⟩
      have HB7 := Lib.hid (HB6.out.trans (hb7.mono HB6.out.size))
      clear hb7
      go_wp2
      go_ret
      exact ⟨rfl, HB7.out⟩
    case pos =>
      go_wp2_with fail
      refine (CVT.out w5 HB5.out true ⟨fun _ => hv, fun _ => rfl⟩).mono ?_
      rintro e w6 ⟨rfl, hb6⟩
      have HB6 := Lib.hid (HB5.out.trans (hb6.mono HB5.out.size))
      have HQ6 := Lib.hid (HQ5.out.after hb6)
      have HT6 := Lib.hid (HT5.out.after hb6)
      have HX6 := Lib.hid (HX5.out.after hb6)
      clear hb6
      clear q0 q1 ql r0 r1 r2 r3 r4 r5 rl s0 s1 sl
      obtain ⟨q0, q1, ql⟩ := blk2 HQ6.out
      obtain ⟨r0, r1, r2, r3, r4, r5, rl⟩ := tab6 HT6.out
      obtain ⟨s0, s1, sl⟩ := blk2 HX6.out
      have her := eq_rg
      rcases around_cases (p := p) (text := text) (a := a) hv with ⟨hA, hna⟩ | ⟨lo, hi, hA, hin, h1, h2, h3, h4, h5, h6⟩
      · rw [HN.out] at hna
        have CA1 := Lib.hid (CAx.out w6 HB6.out _ _ _ hA)
        clear hA
        go_wp2_with fail
        refine (CA1.out).mono ?_
        rintro e w7 ⟨rfl, hb7⟩
        have HB7 := Lib.hid (HB6.out.trans (hb7.mono HB6.out.size))
        have HQ7 := Lib.hid (HQ6.out.after hb7)
        have HT7 := Lib.hid (HT6.out.after hb7)
        have HX7 := Lib.hid (HX6.out.after hb7)
        clear hb7
        clear q0 q1 ql r0 r1 r2 r3 r4 r5 rl s0 s1 sl
        obtain ⟨q0, q1, ql⟩ := blk2 HQ7.out
        obtain ⟨r0, r1, r2, r3, r4, r5, rl⟩ := tab6 HT7.out
        obtain ⟨s0, s1, sl⟩ := blk2 HX7.out
        obtain ⟨w8, hw8, HC8, HR8⟩ := boxV w7 46 #[.int .i64 0, .int .i64 0]
        obtain ⟨g1, hg1⟩ : ∃ g, g = w7.heap.size := ⟨_, rfl⟩
        rw [← hg1] at HR8
        have HB8 := Lib.hid (HB7.out.trans (HC8.out.mono HB7.out.size))
        have HQ8 := Lib.hid (HQ7.out.after HC8.out)
        have HT8 := Lib.hid (HT7.out.after HC8.out)
        have HX8 := Lib.hid (HX7.out.after HC8.out)
        obtain ⟨q0, q1, ql⟩ := blk2 HQ7.out
        obtain ⟨r0, r1, r2, r3, r4, r5, rl⟩ := tab6 HT7.out
        obtain ⟨s0, s1, sl⟩ := blk2 HX7.out
        obtain ⟨z0, z1, zl⟩ := blk2 HR8.out
        clear z0 z1 zl
        by_cases ga : 0 ≤ a
        · have e1 : decide (0 ≤ a) = true := decide_eq_true ga
          have e2 : decide (a < (n : Int)) = false := decide_eq_false (fun h => hna ⟨ga, h⟩)
          go_wp2_with fail
          rw [← hw8]
          clear hw8 hg1 HC8
          refine (alive_any _).mono ?_
          rintro e w9 ⟨rfl, hb9⟩
          have HB9 := Lib.hid (HB8.out.trans (hb9.mono HB8.out.size))
          clear hb9
          go_wp2
          go_ret
          exact ⟨rfl, HB9.out⟩
        · have e1 : decide (0 ≤ a) = false := decide_eq_false ga
          go_wp2_with fail
          rw [← hw8]
          clear hw8 hg1 HC8
          refine (alive_any _).mono ?_
          rintro e w9 ⟨rfl, hb9⟩
          have HB9 := Lib.hid (HB8.out.trans (hb9.mono HB8.out.size))
          clear hb9
          go_wp2
          go_ret
          exact ⟨rfl, HB9.out⟩
      · rw [HN.out] at hin h3 h6
        have CA1 := Lib.hid (CAx.out w6 HB6.out _ _ _ hA)
        clear hA
        go_wp2_with fail
        refine (CA1.out).mono ?_
        rintro e w7 ⟨rfl, hb7⟩
        have HB7 := Lib.hid (HB6.out.trans (hb7.mono HB6.out.size))
        have HQ7 := Lib.hid (HQ6.out.after hb7)
        have HT7 := Lib.hid (HT6.out.after hb7)
        have HX7 := Lib.hid (HX6.out.after hb7)
        clear hb7
        clear q0 q1 ql r0 r1 r2 r3 r4 r5 rl s0 s1 sl
        obtain ⟨q0, q1, ql⟩ := blk2 HQ7.out
        obtain ⟨r0, r1, r2, r3, r4, r5, rl⟩ := tab6 HT7.out
        obtain ⟨s0, s1, sl⟩ := blk2 HX7.out
        obtain ⟨w8, hw8, HC8, HR8⟩ := boxV w7 46 #[.int .i64 (lo : Int), .int .i64 (hi : Int)]
        obtain ⟨g1, hg1⟩ : ∃ g, g = w7.heap.size := ⟨_, rfl⟩
        rw [← hg1] at HR8
        have HB8 := Lib.hid (HB7.out.trans (HC8.out.mono HB7.out.size))
        have HQ8 := Lib.hid (HQ7.out.after HC8.out)
        have HT8 := Lib.hid (HT7.out.after HC8.out)
        have HX8 := Lib.hid (HX7.out.after HC8.out)
        obtain ⟨q0, q1, ql⟩ := blk2 HQ7.out
        obtain ⟨r0, r1, r2, r3, r4, r5, rl⟩ := tab6 HT7.out
        obtain ⟨s0, s1, sl⟩ := blk2 HX7.out
        obtain ⟨z0, z1, zl⟩ := blk2 HR8.out
        clear z0 z1 zl
        have e1 : decide (0 ≤ a) = true := decide_eq_true hin.1
        have e2 : decide (a < (n : Int)) = true := decide_eq_true hin.2
        have e3 : decide (a < (lo : Int)) = false := decide_eq_false (by omega)
        have e4 : decide ((hi : Int) ≤ a) = false := decide_eq_false (by omega)
        have e5 : decide ((lo : Int) < 0) = false := decide_eq_false (by omega)
        have e6 : decide ((n : Int) < (hi : Int)) = false := decide_eq_false (by omega)
        have e7 : decide (n < hi) = false := decide_eq_false (by omega)
        have H4 := Lib.hid h4
        have H5 := Lib.hid h5
        have H6 := Lib.hid h6
        clear h4 h5 h6
        go_wp2
        rw [← hw8, ← hg1]
        clear hw8 hg1 HC8 q0 q1 ql r0 r1 r2 r3 r4 r5 rl s0 s1 sl
        have hz8 := HB8.out.size
        have HB80 : Hid (Below w8.heap.size w8 w8) := Below.refl _ _
        go_loopw [6, 9] (fun k6 i wr => k6 = .bool false ∧ ∃ j : Nat, lo < j ∧ j ≤ hi ∧ i = .int .i64 (j : Int) ∧ Hid (Below w8.heap.size w8 wr)) (fun _ i _ => hi - (intOf i).toNat)
        case atStart => exact ⟨rfl, lo + 1, by omega, by omega, by go_num, HB80⟩
        case round =>
          obtain ⟨rfl, j, hj1, hj2, rfl, HB⟩ := hrel
          have HBw := Lib.hid (HB8.out.trans (HB.out.mono hz8))
          have HQr := Lib.hid (HQ8.out.after HB.out)
          have HTr := Lib.hid (HT8.out.after HB.out)
          have HXr := Lib.hid (HX8.out.after HB.out)
          have HRr := Lib.hid (HR8.out.after HB.out)
          obtain ⟨q0, q1, ql⟩ := blk2 HQr.out
          obtain ⟨r0, r1, r2, r3, r4, r5, rl⟩ := tab6 HTr.out
          obtain ⟨s0, s1, sl⟩ := blk2 HXr.out
          obtain ⟨z0, z1, zl⟩ := blk2 HRr.out
          by_cases hjh : j < hi
          · have CI1 := CI.out wr HBw.out (j : Int)
            rw [show decide ((j : Int) ∈ bndL p t text) = false from decide_eq_false (H4.out j hj1 hjh)] at CI1
            replace CI1 := Lib.hid CI1
            go_wp2_with fail
            refine CI1.out.mono ?_
            rintro e w9 ⟨rfl, hb9⟩
            have HB9 : Hid (Below w8.heap.size w8 w9) := HB.out.trans (hb9.mono HB.out.size)
            clear hb9
            go_wp2
            go_roundw
            case rel => exact ⟨rfl, j + 1, by omega, by omega, by go_num, HB9⟩
            case measure => simp [intOf] <;> omega
          · obtain rfl : j = hi := by omega
            obtain ⟨w10, hw10⟩ : ∃ u, u = wr := ⟨_, rfl⟩
            have HB10 : Hid (Below w8.heap.size w8 w10) := Lib.hid (by rw [hw10]; exact HB.out)
            have HB10w : Hid (Below w.heap.size w w10) := Lib.hid (by rw [hw10]; exact HBw.out)
            clear q0 q1 ql r0 r1 r2 r3 r4 r5 rl s0 s1 sl z0 z1 zl
            subst hw10
            obtain ⟨q0, q1, ql⟩ := blk2 HQr.out
            obtain ⟨r0, r1, r2, r3, r4, r5, rl⟩ := tab6 HTr.out
            obtain ⟨s0, s1, sl⟩ := blk2 HXr.out
            obtain ⟨z0, z1, zl⟩ := blk2 HRr.out
            rcases H5.out with hl | hl
            · subst hl
              rcases H6.out with hh | hh
              · subst hh
                go_wp2_with fail
                refine (alive_any _).mono ?_
                rintro e w20 ⟨rfl, hb20⟩
                have HB20 := Lib.hid (HB10w.out.trans (hb20.mono HB10w.out.size))
                clear hb20
                go_wp2
                go_ret
                exact ⟨rfl, HB20.out⟩
              · by_cases hjn : j = n
                · subst hjn
                  go_wp2_with fail
                  refine (alive_any _).mono ?_
                  rintro e w20 ⟨rfl, hb20⟩
                  have HB20 := Lib.hid (HB10w.out.trans (hb20.mono HB10w.out.size))
                  clear hb20
                  go_wp2
                  go_ret
                  exact ⟨rfl, HB20.out⟩
                · have f2 : ((j : Int) == (n : Int)) = false := by simp; omega
                  have CI11 := CI.out w10 HB10w.out (j : Int)
                  rw [show decide ((j : Int) ∈ bndL p t text) = true from decide_eq_true hh] at CI11
                  replace CI11 := Lib.hid CI11
                  go_wp2_with fail
                  refine CI11.out.mono ?_
                  rintro e w11 ⟨rfl, hb11⟩
                  have HB11 : Hid (Below w8.heap.size w8 w11) := HB10.out.trans (hb11.mono HB10.out.size)
                  have HB11w := Lib.hid (HB8.out.trans (HB11.out.mono hz8))
                  have HQ11 := Lib.hid (HQ8.out.after HB11.out)
                  have HT11 := Lib.hid (HT8.out.after HB11.out)
                  have HX11 := Lib.hid (HX8.out.after HB11.out)
                  have HR11 := Lib.hid (HR8.out.after HB11.out)
                  clear hb11
                  clear q0 q1 ql r0 r1 r2 r3 r4 r5 rl s0 s1 sl z0 z1 zl
                  obtain ⟨q0, q1, ql⟩ := blk2 HQ11.out
                  obtain ⟨r0, r1, r2, r3, r4, r5, rl⟩ := tab6 HT11.out
                  obtain ⟨s0, s1, sl⟩ := blk2 HX11.out
                  obtain ⟨z0, z1, zl⟩ := blk2 HR11.out
                  go_wp2_with fail
                  refine (alive_any _).mono ?_
                  rintro e w20 ⟨rfl, hb20⟩
                  have HB20 := Lib.hid (HB11w.out.trans (hb20.mono HB11w.out.size))
                  clear hb20
                  go_wp2
                  go_ret
                  exact ⟨rfl, HB20.out⟩
            · by_cases hl0 : lo = 0
              · subst hl0
                rcases H6.out with hh | hh
                · subst hh
                  go_wp2_with fail
                  refine (alive_any _).mono ?_
                  rintro e w20 ⟨rfl, hb20⟩
                  have HB20 := Lib.hid (HB10w.out.trans (hb20.mono HB10w.out.size))
                  clear hb20
                  go_wp2
                  go_ret
                  exact ⟨rfl, HB20.out⟩
                · by_cases hjn : j = n
                  · subst hjn
                    go_wp2_with fail
                    refine (alive_any _).mono ?_
                    rintro e w20 ⟨rfl, hb20⟩
                    have HB20 := Lib.hid (HB10w.out.trans (hb20.mono HB10w.out.size))
                    clear hb20
                    go_wp2
                    go_ret
                    exact ⟨rfl, HB20.out⟩
                  · have f2 : ((j : Int) == (n : Int)) = false := by simp; omega
                    have CI11 := CI.out w10 HB10w.out (j : Int)
                    rw [show decide ((j : Int) ∈ bndL p t text) = true from decide_eq_true hh] at CI11
                    replace CI11 := Lib.hid CI11
                    go_wp2_with fail
                    refine CI11.out.mono ?_
                    rintro e w11 ⟨rfl, hb11⟩
                    have HB11 : Hid (Below w8.heap.size w8 w11) := HB10.out.trans (hb11.mono HB10.out.size)
                    have HB11w := Lib.hid (HB8.out.trans (HB11.out.mono hz8))
                    have HQ11 := Lib.hid (HQ8.out.after HB11.out)
                    have HT11 := Lib.hid (HT8.out.after HB11.out)
                    have HX11 := Lib.hid (HX8.out.after HB11.out)
                    have HR11 := Lib.hid (HR8.out.after HB11.out)
                    clear hb11
                    clear q0 q1 ql r0 r1 r2 r3 r4 r5 rl s0 s1 sl z0 z1 zl
                    obtain ⟨q0, q1, ql⟩ := blk2 HQ11.out
                    obtain ⟨r0, r1, r2, r3, r4, r5, rl⟩ := tab6 HT11.out
                    obtain ⟨s0, s1, sl⟩ := blk2 HX11.out
                    obtain ⟨z0, z1, zl⟩ := blk2 HR11.out
                    go_wp2_with fail
                    refine (alive_any _).mono ?_
                    rintro e w20 ⟨rfl, hb20⟩
                    have HB20 := Lib.hid (HB11w.out.trans (hb20.mono HB11w.out.size))
                    clear hb20
                    go_wp2
                    go_ret
                    exact ⟨rfl, HB20.out⟩
              · have f1 : ((lo : Int) == 0) = false := by simp; omega
                have CI11 := CI.out w10 HB10w.out (lo : Int)
                rw [show decide ((lo : Int) ∈ bndL p t text) = true from decide_eq_true hl] at CI11
                replace CI11 := Lib.hid CI11
                go_wp2_with fail
                refine CI11.out.mono ?_
                rintro e w11 ⟨rfl, hb11⟩
                have HB11 : Hid (Below w8.heap.size w8 w11) := HB10.out.trans (hb11.mono HB10.out.size)
                have HB11w := Lib.hid (HB8.out.trans (HB11.out.mono hz8))
                have HQ11 := Lib.hid (HQ8.out.after HB11.out)
                have HT11 := Lib.hid (HT8.out.after HB11.out)
                have HX11 := Lib.hid (HX8.out.after HB11.out)
                have HR11 := Lib.hid (HR8.out.after HB11.out)
                clear hb11
                clear q0 q1 ql r0 r1 r2 r3 r4 r5 rl s0 s1 sl z0 z1 zl
                obtain ⟨q0, q1, ql⟩ := blk2 HQ11.out
                obtain ⟨r0, r1, r2, r3, r4, r5, rl⟩ := tab6 HT11.out
                obtain ⟨s0, s1, sl⟩ := blk2 HX11.out
                obtain ⟨z0, z1, zl⟩ := blk2 HR11.out
                rcases H6.out with hh | hh
                · subst hh
                  go_wp2_with fail
                  refine (alive_any _).mono ?_
                  rintro e w20 ⟨rfl, hb20⟩
                  have HB20 := Lib.hid (HB11w.out.trans (hb20.mono HB11w.out.size))
                  clear hb20
                  go_wp2
                  go_ret
                  exact ⟨rfl, HB20.out⟩
                · by_cases hjn : j = n
                  · subst hjn
                    go_wp2_with fail
                    refine (alive_any _).mono ?_
                    rintro e w20 ⟨rfl, hb20⟩
                    have HB20 := Lib.hid (HB11w.out.trans (hb20.mono HB11w.out.size))
                    clear hb20
                    go_wp2
                    go_ret
                    exact ⟨rfl, HB20.out⟩
                  · have f2 : ((j : Int) == (n : Int)) = false := by simp; omega
                    have CI12 := CI.out w11 HB11w.out (j : Int)
                    rw [show decide ((j : Int) ∈ bndL p t text) = true from decide_eq_true hh] at CI12
                    replace CI12 := Lib.hid CI12
                    go_wp2_with fail
                    refine CI12.out.mono ?_
                    rintro e w12 ⟨rfl, hb12⟩
                    have HB12 : Hid (Below w8.heap.size w8 w12) := HB11.out.trans (hb12.mono HB11.out.size)
                    have HB12w := Lib.hid (HB8.out.trans (HB12.out.mono hz8))
                    have HQ12 := Lib.hid (HQ8.out.after HB12.out)
                    have HT12 := Lib.hid (HT8.out.after HB12.out)
                    have HX12 := Lib.hid (HX8.out.after HB12.out)
                    have HR12 := Lib.hid (HR8.out.after HB12.out)
                    clear hb12
                    clear q0 q1 ql r0 r1 r2 r3 r4 r5 rl s0 s1 sl z0 z1 zl
                    obtain ⟨q0, q1, ql⟩ := blk2 HQ12.out
                    obtain ⟨r0, r1, r2, r3, r4, r5, rl⟩ := tab6 HT12.out
                    obtain ⟨s0, s1, sl⟩ := blk2 HX12.out
                    obtain ⟨z0, z1, zl⟩ := blk2 HR12.out
                    go_wp2_with fail
                    refine (alive_any _).mono ?_
                    rintro e w20 ⟨rfl, hb20⟩
                    have HB20 := Lib.hid (HB12w.out.trans (hb20.mono HB12w.out.size))
                    clear hb20
                    go_wp2
                    go_ret
                    exact ⟨rfl, HB20.out⟩
theorem own : ownKnob Try.prog.godebug = none := by kernel_rfl
theorem laidOut : laidOutB Try.prog = true := by kernel_rfl
set_option maxRecDepth 100000 in
theorem lifted (os : Os) (started : os.Started) (H : Type) (enc : TypeId × Value → H) :
    ReturnsInHanded {} Try.checked os 8 .any (Rows.anywherePartsSpec.pre6 enc Try.prog Try.f8 Rows.anywherePartsRow.domain false) (Rows.anywherePartsSpec.post enc Try.prog Try.f8 false true false false) := by
  refine returnsInHanded_of_change (C := Try.checked) own started (by kernel_rfl) Try.func8
    (ChangeSpec.witness6 (enc := enc) (C := Try.checked) false ⟨#[], #[.agg #[.slice none 0 0, .slice none 0 0], .agg #[.slice none 0 0, .slice none 0 0, .slice none 0 0, .slice none 0 0, .slice none 0 0, .slice none 0 0], .agg #[.slice none 0 0, .int .i64 0]], []⟩ 8 (by kernel_rfl) (by kernel_rfl) (by kernel_rfl) (by kernel_rfl)) ?_
  intro W base args ds gs before hval0 hW hcnd _
  have hval : ∀ (j : Nat) t v, Try.f8.params[j]? = some t → args[j]? = some v → Value.okWide Try.prog W .any base t v := hval0
  have hW' := hW
  obtain ⟨p, q, hA0, hV, rfl, hfz, hnd⟩ := hW
  have hA : DataW.TrodAll enc Try.prog W 0 (fun _ => true) true Try.f8.params.toList args.toList ds p := hA0
  rw [Try.params8] at hA hval
  obtain ⟨v0, v1, v2, d0, d1, d2, p0, p1, p2, rfl, rfl, rfl, h0, h1, h2⟩ := trodAll_three hA
  obtain ⟨rfl, rfl⟩ := trodVars_none hV
  obtain ⟨y0, t0, rfl, hB0⟩ := open_prop (hval 0 41 v0 rfl rfl) h0
  obtain ⟨y1, t1, rfl, hB1⟩ := open_table (hval 1 28 v1 rfl rfl) h1
  obtain ⟨A2, c2, xs2, a2, rfl, hc2, hm2, hR2, -, wa2⟩ := open_place (hval 2 43 v2 rfl rfl) h2
  refine (walk W y0 t0 hB0 y1 t1 hB1 A2 c2 xs2 a2 hc2 hm2 hR2 (wf_i64 wa2)).mono fun e W' ⟨he, hb⟩ => ⟨_, he, ?_⟩
  exact law_post laidOut (by rw [Try.params8]; exact of_decide_eq_true (by kernel_rfl)) rfl rfl Try.underlying4 hW' rfl hb
theorem holds : Rows.AnywherePartsSaid :=
  OpenClaim.holds_of_wide 8 Try.f8 rfl rfl rfl rfl rfl rfl rfl ⟨rfl, rfl, rfl, rfl, rfl⟩ rfl rfl rfl rfl rfl (by kernel_rfl) Try.func8 (by kernel_rfl)
    (of_decide_eq_true (by kernel_rfl)) (by unfold Func.isWrapper; first | (rw [if_pos (by decide +kernel)]; kernel_rfl) | (rw [if_neg (by decide +kernel)]; exact ⟨rfl, rfl⟩))
    (fun os started H enc _ => lifted os started H enc)
end Go.Proofs.Ytkoojoogddndnaa.LParts
namespace Go.Proofs.Ytkoojoogddndnaa
theorem anywhereParts_holds : Rows.AnywherePartsSaid := LParts.holds
end Go.Proofs.Ytkoojoogddndnaa
