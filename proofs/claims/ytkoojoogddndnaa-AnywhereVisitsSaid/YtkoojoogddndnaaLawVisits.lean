/-
  AnywhereVisits: for every input the law returns true, and its arguments read as before. No condition.
-/
import Derived.Test.YtkoojoogddndnaaRows
import Derived.Test.YtkoojoogddndnaaLift
import Derived.Test.YtkoojoogddndnaaBo0
import Derived.Test.YtkoojoogddndnaaBo4
import Derived.BigQuiet
import Derived.Test.YtkoojoogddndnaaBs3
namespace Go.Proofs.Ytkoojoogddndnaa.LVisits
open Go.ChangeShapes Go.WideShapes Go.ChangeAt Go.RowKit Go.UtYtkoojoogddndnaa Go.Joins
set_option maxRecDepth 100000 in
set_option maxHeartbeats 4000000 in
theorem walk (w : World) (x : PA) (p : PR) (hP : PrAt w w.heap.size x p) (y : TA) (t : BT) (hB : TabAt w w.heap.size y t) (At : Option Addr) (ct : Nat) (text : List Int) (a : Int) (_hc : text.length ≤ ct) (_hm : ct ≤ maxLen) (hT : Row w w.heap.size At (ints text)) (_ha : -9223372036854775808 ≤ a ∧ a ≤ 9223372036854775807) :
    Calls Try.prog 7 #[x.val p, y.val t, .agg #[.slice At text.length ct, .int .i64 a]] w fun e w' => e = .returned (.bool true) ∧ Below w.heap.size w w' := by
  have CF0 := Lib.hid (fun (u : World) (hu : Below w.heap.size w u) (v : Bool) (hv : v = true ↔ smT t ∧ text.length ≤ 40) => few31_any y t At text.length ct u (hB.below hu).lt v hv)
  have CQ0 := Lib.hid (fun (u : World) (v : Bool) (hv : v = true ↔ p.names.length ≤ 300 ∧ p.spans.length ≤ 16) => few10_any x p 16 u v hv)
  have CI0 := Lib.hid (fun (u : World) (hu : Below w.heap.size w u) (z : Int) (hs : smT t ∧ text.length ≤ 40) (hp : p.names.length ≤ 300 ∧ p.spans.length ≤ 16) => is_any x p y t At ct text u (hP.below hu).lt (by have := hp.2; omega) (hB.below hu).lt ⟨by have := hs.1.1.1; omega, by have := hs.1.1.2; omega⟩ (hT.below hu).lt (by omega) z)
  have CN0 := Lib.hid (fun (u : World) (hu : Below w.heap.size w u) (z : Int) (hs : smT t ∧ text.length ≤ 40) (hp : p.names.length ≤ 300 ∧ p.spans.length ≤ 16) => next_any x p y t At ct text u (hP.below hu).lt (by have := hp.2; omega) (hB.below hu).lt ⟨by have := hs.1.1.1; omega, by have := hs.1.1.2; omega⟩ (hT.below hu).lt (by omega) z)
  have CV0 := Lib.hid (fun (u : World) (hu : Below w.heap.size w u) (z : Int) (hs : smT t ∧ text.length ≤ 40) (hp : p.names.length ≤ 300 ∧ p.spans.length ≤ 16) => prev_any x p y t At ct text u (hP.below hu).lt (by have := hp.2; omega) (hB.below hu).lt ⟨by have := hs.1.1.1; omega, by have := hs.1.1.2; omega⟩ (hT.below hu).lt (by omega) z)
  have CB0 := Lib.hid (fun (u : World) (hu : Below w.heap.size w u)  (hs : smT t ∧ text.length ≤ 40) (hp : p.names.length ≤ 300 ∧ p.spans.length ≤ 16) => rbounds_any x p y t At ct text u (hP.below hu).lt (by have := hp.2; omega) (hB.below hu).lt ⟨by have := hs.1.1.1; omega, by have := hs.1.1.2; omega⟩ (hT.below hu).lt (by omega))
  unfold TA.val at CF0 CI0 CN0 CV0 CB0 ⊢
  unfold PA.val at CQ0 CI0 CN0 CV0 CB0 ⊢
  unfold RetI at CB0
  obtain ⟨w1, hw1, HB1, HK1⟩ := boxV w 41 #[.slice x.n p.names.length x.cn, .slice x.s p.spans.length x.cs]
  obtain ⟨w2, hw2, HB2', HK2'⟩ := boxT w1 28 y t
  obtain ⟨w3, hw3, HB3', HK3'⟩ := boxV w2 43 #[.slice At text.length ct, .int .i64 a]
  have HB2 := Lib.hid (HB1.out.trans (HB2'.out.mono HB1.out.size))
  have HB3 := Lib.hid (HB2.out.trans (HB3'.out.mono HB2.out.size))
  have hs1 : w1.heap.size = w.heap.size + 1 := by rw [hw1]; simp
  have hs2 : w2.heap.size = w.heap.size + 1 + 1 := by rw [hw2, World.size_alloc, hs1]
  obtain ⟨g, hg⟩ : ∃ g, g = w1.heap.size := ⟨_, rfl⟩
  obtain ⟨gx, hgx⟩ : ∃ g, g = w2.heap.size := ⟨_, rfl⟩
  rw [← hg] at HK2'
  rw [← hgx] at HK3'
  have hgw : g = w.heap.size + 1 := by omega
  have hgxw : gx = w.heap.size + 1 + 1 := by omega
  have HQ3 := Lib.hid ((HK1.out.after HB2'.out).after HB3'.out)
  have HT3 := Lib.hid (HK2'.out.after HB3'.out)
  have HX3 := Lib.hid HK3'.out
  obtain ⟨q0, q1, ql⟩ := blk2 HQ3.out
  obtain ⟨r0, r1, r2, r3, r4, r5, rl⟩ := tab6 HT3.out
  obtain ⟨s0, s1, sl⟩ := blk2 HX3.out
  by_cases hs : smT t ∧ text.length ≤ 40
  case neg =>
    have CF := Lib.hid (CF0.out w3 HB3.out false ⟨fun h => (by cases h), fun h => absurd h hs⟩)
    obtain ⟨n, hn⟩ : ∃ n, text.length = n := ⟨_, rfl⟩
    rw [hn] at CF s0 hw3 ⊢
    clear CF0 CQ0 CI0 CN0 CV0 CB0 hs hn hB hP hT _hc
    go_enter Try.func7, Try.ntmps7
    go_upto_region 1 with fail
    rw [← hw1, ← hw2, ← hw3, ← hgxw, ← hgw]
    clear hw1 hw2 hw3 hs1 hs2 hg hgw hgx hgxw
    go_wp2_with fail
    refine (CF.out).mono ?_
    rintro e w4 ⟨rfl, hb4⟩
    have HB4 := Lib.hid (HB3.out.trans (hb4.mono HB3.out.size))
    have HQ4 := Lib.hid (HQ3.out.after hb4)
    have HT4 := Lib.hid (HT3.out.after hb4)
    have HX4 := Lib.hid (HX3.out.after hb4)
    clear hb4
    clear q0 q1 ql r0 r1 r2 r3 r4 r5 rl s0 s1 sl
    go_wp2_with fail
    refine (alive_any _).mono ?_
    rintro e w5 ⟨rfl, hb5⟩
    have HB5 := Lib.hid (HB4.out.trans (hb5.mono HB4.out.size))
    clear hb5
    go_wp2
    go_ret
    exact ⟨rfl, HB5.out⟩
  case pos =>
  by_cases hp : p.names.length ≤ 300 ∧ p.spans.length ≤ 16
  case neg =>
    have CF := Lib.hid (CF0.out w3 HB3.out true ⟨fun _ => hs, fun _ => rfl⟩)
    have CQ := Lib.hid (fun u => CQ0.out u false ⟨fun h => (by cases h), fun h => absurd h hp⟩)
    obtain ⟨n, hn⟩ : ∃ n, text.length = n := ⟨_, rfl⟩
    rw [hn] at CF s0 hw3 HX3 ⊢
    clear CF0 CQ0 CI0 CN0 CV0 CB0 hs hp hn hB hP hT _hc
    go_enter Try.func7, Try.ntmps7
    go_upto_region 1 with fail
    rw [← hw1, ← hw2, ← hw3, ← hgxw, ← hgw]
    clear hw1 hw2 hw3 hs1 hs2 hg hgw hgx hgxw
    go_wp2_with fail
    refine (CF.out).mono ?_
    rintro e w4 ⟨rfl, hb4⟩
    have HB4 := Lib.hid (HB3.out.trans (hb4.mono HB3.out.size))
    have HQ4 := Lib.hid (HQ3.out.after hb4)
    have HT4 := Lib.hid (HT3.out.after hb4)
    have HX4 := Lib.hid (HX3.out.after hb4)
    clear hb4
    clear q0 q1 ql r0 r1 r2 r3 r4 r5 rl s0 s1 sl
    obtain ⟨q0, q1, ql⟩ := blk2 HQ4.out
    obtain ⟨r0, r1, r2, r3, r4, r5, rl⟩ := tab6 HT4.out
    obtain ⟨s0, s1, sl⟩ := blk2 HX4.out
    go_wp2_with fail
    refine (CQ.out w4).mono ?_
    rintro e w5 ⟨rfl, hb5⟩
    have HB5 := Lib.hid (HB4.out.trans (hb5.mono HB4.out.size))
    have HQ5 := Lib.hid (HQ4.out.after hb5)
    have HT5 := Lib.hid (HT4.out.after hb5)
    have HX5 := Lib.hid (HX4.out.after hb5)
    clear hb5
    clear q0 q1 ql r0 r1 r2 r3 r4 r5 rl s0 s1 sl
    go_wp2_with fail
    refine (alive_any _).mono ?_
    rintro e w6 ⟨rfl, hb6⟩
    have HB6 := Lib.hid (HB5.out.trans (hb6.mono HB5.out.size))
    clear hb6
    go_wp2
    go_ret
    exact ⟨rfl, HB6.out⟩
  case pos =>
    have CF := Lib.hid (CF0.out w3 HB3.out true ⟨fun _ => hs, fun _ => rfl⟩)
    have CQ := Lib.hid (fun u => CQ0.out u true ⟨fun _ => hp, fun _ => rfl⟩)
    have CI := Lib.hid (fun (u : World) (hu : Below w.heap.size w u) (z : Int) => CI0.out u hu z hs hp)
    have CN := Lib.hid (fun (u : World) (hu : Below w.heap.size w u) (z : Int) => CN0.out u hu z hs hp)
    have CV := Lib.hid (fun (u : World) (hu : Below w.heap.size w u) (z : Int) => CV0.out u hu z hs hp)
    have CB := Lib.hid (fun (u : World) (hu : Below w.heap.size w u)  => CB0.out u hu  hs hp)
    obtain ⟨b, hb⟩ : ∃ b, bndL p t text = b := ⟨_, rfl⟩
    have hbs0 := bnd_sorted p t text
    have hbp0 := bnd_pos p t text
    have hbl0 := bnd_len p t text
    rw [hb] at CI CN CV CB hbs0 hbp0 hbl0
    have HBS := Lib.hid hbs0
    have HBP := Lib.hid hbp0
    obtain ⟨N, hN⟩ : ∃ n, b.length = n := ⟨_, rfl⟩
    rw [hN] at CB hbl0
    have HNN := Lib.hid hN
    have hN41 : N ≤ 41 := by have := hs.2; omega
    clear hb hbs0 hbp0 hbl0 hN
    obtain ⟨n, hn⟩ : ∃ n, text.length = n := ⟨_, rfl⟩
    have HN := Lib.hid hn
    have hn40 : n ≤ 40 := by have := hs.2; omega
    rw [hn] at CF s0 hw3 HX3 CI CN CV CB ⊢
    clear CF0 CQ0 CI0 CN0 CV0 CB0 hp hn hB hP hT _hc hs
    go_enter Try.func7, Try.ntmps7
    go_upto_region 1 with fail
    rw [← hw1, ← hw2, ← hw3, ← hgxw, ← hgw]
    clear hw1 hw2 hw3 hs1 hs2 hg hgw hgx hgxw
    go_wp2_with fail
    refine (CF.out).mono ?_
    rintro e w4 ⟨rfl, hb4⟩
    have HB4 := Lib.hid (HB3.out.trans (hb4.mono HB3.out.size))
    have HQ4 := Lib.hid (HQ3.out.after hb4)
    have HT4 := Lib.hid (HT3.out.after hb4)
    have HX4 := Lib.hid (HX3.out.after hb4)
    clear hb4
    clear q0 q1 ql r0 r1 r2 r3 r4 r5 rl s0 s1 sl
    obtain ⟨q0, q1, ql⟩ := blk2 HQ4.out
    obtain ⟨r0, r1, r2, r3, r4, r5, rl⟩ := tab6 HT4.out
    obtain ⟨s0, s1, sl⟩ := blk2 HX4.out
    go_wp2_with fail
    refine (CQ.out w4).mono ?_
    rintro e w5 ⟨rfl, hb5⟩
    have HB5 := Lib.hid (HB4.out.trans (hb5.mono HB4.out.size))
    have HQ5 := Lib.hid (HQ4.out.after hb5)
    have HT5 := Lib.hid (HT4.out.after hb5)
    have HX5 := Lib.hid (HX4.out.after hb5)
    clear hb5
    clear q0 q1 ql r0 r1 r2 r3 r4 r5 rl s0 s1 sl
    obtain ⟨q0, q1, ql⟩ := blk2 HQ5.out
    obtain ⟨r0, r1, r2, r3, r4, r5, rl⟩ := tab6 HT5.out
    obtain ⟨s0, s1, sl⟩ := blk2 HX5.out
    go_wp2_with fail
    refine (CB.out w5 HB5.out).mono ?_
    rintro e w6 ⟨A6, c6, rfl, lc6, lm6, hr6, hb6⟩
    have HB6 := Lib.hid (HB5.out.trans (hb6.mono HB5.out.size))
    have HQ6 := Lib.hid (HQ5.out.after hb6)
    have HT6 := Lib.hid (HT5.out.after hb6)
    have HX6 := Lib.hid (HX5.out.after hb6)
    clear hr6
    clear hb6
    clear q0 q1 ql r0 r1 r2 r3 r4 r5 rl s0 s1 sl
    obtain ⟨q0, q1, ql⟩ := blk2 HQ6.out
    obtain ⟨r0, r1, r2, r3, r4, r5, rl⟩ := tab6 HT6.out
    obtain ⟨s0, s1, sl⟩ := blk2 HX6.out
    go_wp2
    clear q0 q1 ql r0 r1 r2 r3 r4 r5 rl s0 s1 sl
    have HB0 : Hid (Below w6.heap.size w6 w6) := Below.refl _ _
    have hz6 := HB6.out.size
    go_loopw [8, 9, 10] (fun cv pv iv wr => ∃ (k : Nat) (at1 : Int), k ≤ N ∧ cv = .int .i64 (k : Int) ∧ iv = .int .i64 (k : Int) ∧ pv = .int .i64 at1 ∧ Hid (cntGt b at1 + k = cntGt b a) ∧ Hid (Below w6.heap.size w6 wr)) (fun _ _ i _ => N + 1 - (intOf i).toNat)
    case atStart => exact ⟨0, a, by omega, rfl, rfl, rfl, rfl, HB0⟩
    case round =>
      obtain ⟨k, at1, hk, rfl, rfl, rfl, HC, HB⟩ := hrel
      have HBw := Lib.hid (HB6.out.trans (HB.out.mono hz6))
      have HQr := Lib.hid (HQ6.out.after HB.out)
      have HTr := Lib.hid (HT6.out.after HB.out)
      have HXr := Lib.hid (HX6.out.after HB.out)
      obtain ⟨q0, q1, ql⟩ := blk2 HQr.out
      obtain ⟨r0, r1, r2, r3, r4, r5, rl⟩ := tab6 HTr.out
      obtain ⟨s0, s1, sl⟩ := blk2 HXr.out
      have HCS := Lib.hid (next_cases HBS.out HBP.out at1)
      have hgl := cntGt_le b a
      rw [HNN.out] at hgl
      have CN1 := CN.out wr HBw.out at1
      obtain ⟨v, hv⟩ : ∃ v, nextL b at1 = v := ⟨_, rfl⟩
      rw [hv] at CN1 HCS
      replace CN1 := Lib.hid CN1
      clear hv
      go_wp2_with fail
      refine CN1.out.mono ?_
      rintro e w7 ⟨rfl, hb7⟩
      have HB7 : Hid (Below w6.heap.size w6 w7) := HB.out.trans (hb7.mono HB.out.size)
      have HB7w := Lib.hid (HB6.out.trans (HB7.out.mono hz6))
      have HQ7 := Lib.hid (HQ6.out.after HB7.out)
      have HT7 := Lib.hid (HT6.out.after HB7.out)
      have HX7 := Lib.hid (HX6.out.after HB7.out)
      clear hb7 q0 q1 ql r0 r1 r2 r3 r4 r5 rl s0 s1 sl
      obtain ⟨q0, q1, ql⟩ := blk2 HQ7.out
      obtain ⟨r0, r1, r2, r3, r4, r5, rl⟩ := tab6 HT7.out
      obtain ⟨s0, s1, sl⟩ := blk2 HX7.out
      by_cases hv0 : v < 0
      case neg =>
        have d1 : decide (v < 0) = false := decide_eq_false hv0
        have HH : Hid (0 ≤ v ∧ at1 < v ∧ v ∈ b ∧ cntGt b v + 1 = cntGt b at1) := Lib.hid (by
          rcases HCS.out with h | h
          · omega
          · exact h)
        have hlt : at1 < v := HH.out.2.1
        have d2 : decide (v ≤ at1) = false := decide_eq_false (by omega)
        have CI1 := CI.out w7 HB7w.out v
        rw [show decide (v ∈ b) = true from decide_eq_true HH.out.2.2.1] at CI1
        replace CI1 := Lib.hid CI1
        go_wp2_with fail
        refine CI1.out.mono ?_
        rintro e w8 ⟨rfl, hb8⟩
        have HB8 : Hid (Below w6.heap.size w6 w8) := HB7.out.trans (hb8.mono HB7.out.size)
        have HC' : Hid (cntGt b v + (k + 1) = cntGt b a) := Lib.hid (by have := HC.out; have := HH.out.2.2.2; omega)
        have hk1 : k + 1 ≤ N := by have := HC'.out; omega
        clear hb8 q0 q1 ql r0 r1 r2 r3 r4 r5 rl s0 s1 sl
        go_wp2
        go_roundw
        case rel => exact ⟨k + 1, v, hk1, by go_num, by go_num, rfl, HC', HB8⟩
        case measure => simp [intOf] <;> omega
      case pos =>
        have d1 : decide (v < 0) = true := decide_eq_true hv0
        have HE1 : Hid (k = cntGt b a) := Lib.hid (by
          have := HC.out
          rcases HCS.out with h | h
          · omega
          · omega)
        clear HCS HC HB HBw HQr HTr HXr CN1
        go_wp2
        clear q0 q1 ql r0 r1 r2 r3 r4 r5 rl s0 s1 sl
        have hz7 := HB7w.out.size
        have HB70 : Hid (Below w7.heap.size w7 w7) := Below.refl _ _
        go_loopw [8, 9, 12] (fun cv pv iv wr => ∃ (j : Nat) (at1 : Int), j ≤ N ∧ cv = .int .i64 ((k + j : Nat) : Int) ∧ iv = .int .i64 (j : Int) ∧ pv = .int .i64 at1 ∧ Hid (cntLt b at1 + j = cntLt b a) ∧ Hid (Below w7.heap.size w7 wr)) (fun _ _ i _ => N + 1 - (intOf i).toNat)
        case atStart => exact ⟨0, a, by omega, rfl, rfl, rfl, rfl, HB70⟩
        case round =>
          obtain ⟨j, at2, hj, rfl, rfl, rfl, HC, HB⟩ := hrel
          have HBw := Lib.hid (HB7w.out.trans (HB.out.mono hz7))
          have HQr := Lib.hid (HQ7.out.after HB.out)
          have HTr := Lib.hid (HT7.out.after HB.out)
          have HXr := Lib.hid (HX7.out.after HB.out)
          obtain ⟨q0, q1, ql⟩ := blk2 HQr.out
          obtain ⟨r0, r1, r2, r3, r4, r5, rl⟩ := tab6 HTr.out
          obtain ⟨s0, s1, sl⟩ := blk2 HXr.out
          have HCS := Lib.hid (prev_cases HBS.out HBP.out at2)
          have hgl2 := cntLt_le b a
          rw [HNN.out] at hgl2
          have CV1 := CV.out wr HBw.out at2
          obtain ⟨u, hu⟩ : ∃ v, prevL b at2 = v := ⟨_, rfl⟩
          rw [hu] at CV1 HCS
          replace CV1 := Lib.hid CV1
          clear hu
          go_wp2_with fail
          refine CV1.out.mono ?_
          rintro e w9 ⟨rfl, hb9⟩
          have HB9 : Hid (Below w7.heap.size w7 w9) := HB.out.trans (hb9.mono HB.out.size)
          have HB9w := Lib.hid (HB7w.out.trans (HB9.out.mono hz7))
          have HQ9 := Lib.hid (HQ7.out.after HB9.out)
          have HT9 := Lib.hid (HT7.out.after HB9.out)
          have HX9 := Lib.hid (HX7.out.after HB9.out)
          clear hb9 q0 q1 ql r0 r1 r2 r3 r4 r5 rl s0 s1 sl
          obtain ⟨q0, q1, ql⟩ := blk2 HQ9.out
          obtain ⟨r0, r1, r2, r3, r4, r5, rl⟩ := tab6 HT9.out
          obtain ⟨s0, s1, sl⟩ := blk2 HX9.out
          by_cases hu0 : u < 0
          case neg =>
            have d3 : decide (u < 0) = false := decide_eq_false hu0
            have HH : Hid (0 ≤ u ∧ u < at2 ∧ u ∈ b ∧ cntLt b u + 1 = cntLt b at2) := Lib.hid (by
              rcases HCS.out with h | h
              · omega
              · exact h)
            have hlt : u < at2 := HH.out.2.1
            have d4 : decide (at2 ≤ u) = false := decide_eq_false (by omega)
            have CI1 := CI.out w9 HB9w.out u
            rw [show decide (u ∈ b) = true from decide_eq_true HH.out.2.2.1] at CI1
            replace CI1 := Lib.hid CI1
            go_wp2_with fail
            refine CI1.out.mono ?_
            rintro e w10 ⟨rfl, hb10⟩
            have HB10 : Hid (Below w7.heap.size w7 w10) := HB9.out.trans (hb10.mono HB9.out.size)
            have HC' : Hid (cntLt b u + (j + 1) = cntLt b a) := Lib.hid (by have := HC.out; have := HH.out.2.2.2; omega)
            have hk1 : j + 1 ≤ N := by have := HC'.out; omega
            clear hb10 q0 q1 ql r0 r1 r2 r3 r4 r5 rl s0 s1 sl
            go_wp2
            go_roundw
            case rel => exact ⟨j + 1, u, hk1, by go_num, by go_num, rfl, HC', HB10⟩
            case measure => simp [intOf] <;> omega
          case pos =>
            have d3 : decide (u < 0) = true := decide_eq_true hu0
            have HE2 : Hid (j = cntLt b a) := Lib.hid (by
              have := HC.out
              rcases HCS.out with h | h
              · omega
              · omega)
            have HALL := Lib.hid (cnt_all HBS.out a)
            have CI1 := CI.out w9 HB9w.out a
            by_cases hin : a ∈ b
            · have HT : Hid (((k + j : Nat) : Int) + 1 = (N : Int)) := Lib.hid (by
                have h1 := HALL.out
                rw [if_pos hin, HNN.out, ← HE1.out, ← HE2.out] at h1
                omega)
              have d5 : (((k + j : Nat) : Int) + 1 == (N : Int)) = true := by rw [HT.out]; simp
              rw [show decide (a ∈ b) = true from decide_eq_true hin] at CI1
              replace CI1 := Lib.hid CI1
              go_wp2_with fail
              refine CI1.out.mono ?_
              rintro e w11 ⟨rfl, hb11⟩
              have HB11 := Lib.hid (HB9w.out.trans (hb11.mono HB9w.out.size))
              clear hb11 q0 q1 ql r0 r1 r2 r3 r4 r5 rl s0 s1 sl
              go_wp2_with fail
              refine (alive_any _).mono ?_
              rintro e w12 ⟨rfl, hb12⟩
              have HB12 := Lib.hid (HB11.out.trans (hb12.mono HB11.out.size))
              clear hb12
              go_wp2
              go_ret
              exact ⟨rfl, HB12.out⟩
            · have HT : Hid (((k + j : Nat) : Int) = (N : Int)) := Lib.hid (by
                have h1 := HALL.out
                rw [if_neg hin, HNN.out, ← HE1.out, ← HE2.out] at h1
                omega)
              have d5 : (((k + j : Nat) : Int) == (N : Int)) = true := by rw [HT.out]; simp
              rw [show decide (a ∈ b) = false from decide_eq_false hin] at CI1
              replace CI1 := Lib.hid CI1
              go_wp2_with fail
              refine CI1.out.mono ?_
              rintro e w11 ⟨rfl, hb11⟩
              have HB11 := Lib.hid (HB9w.out.trans (hb11.mono HB9w.out.size))
              clear hb11 q0 q1 ql r0 r1 r2 r3 r4 r5 rl s0 s1 sl
              go_wp2_with fail
              refine (alive_any _).mono ?_
              rintro e w12 ⟨rfl, hb12⟩
              have HB12 := Lib.hid (HB11.out.trans (hb12.mono HB11.out.size))
              clear hb12
              go_wp2
              go_ret
              exact ⟨rfl, HB12.out⟩
theorem own : ownKnob Try.prog.godebug = none := by kernel_rfl
theorem laidOut : laidOutB Try.prog = true := by kernel_rfl
set_option maxRecDepth 100000 in
theorem lifted (os : Os) (started : os.Started) (H : Type) (enc : TypeId × Value → H) :
    ReturnsInHanded {} Try.checked os 7 .any (Rows.anywhereVisitsSpec.pre6 enc Try.prog Try.f7 Rows.anywhereVisitsRow.domain false) (Rows.anywhereVisitsSpec.post enc Try.prog Try.f7 false true false false) := by
  refine returnsInHanded_of_change (C := Try.checked) own started (by kernel_rfl) Try.func7
    (ChangeSpec.witness6 (enc := enc) (C := Try.checked) false ⟨#[], #[.agg #[.slice none 0 0, .slice none 0 0], .agg #[.slice none 0 0, .slice none 0 0, .slice none 0 0, .slice none 0 0, .slice none 0 0, .slice none 0 0], .agg #[.slice none 0 0, .int .i64 0]], []⟩ 8 (by kernel_rfl) (by kernel_rfl) (by kernel_rfl) (by kernel_rfl)) ?_
  intro W base args ds gs before hval0 hW hcnd _
  have hval : ∀ (j : Nat) t v, Try.f7.params[j]? = some t → args[j]? = some v → Value.okWide Try.prog W .any base t v := hval0
  have hW' := hW
  obtain ⟨p, q, hA0, hV, rfl, hfz, hnd⟩ := hW
  have hA : DataW.TrodAll enc Try.prog W 0 (fun _ => true) true Try.f7.params.toList args.toList ds p := hA0
  rw [Try.params7] at hA hval
  obtain ⟨v0, v1, v2, d0, d1, d2, p0, p1, p2, rfl, rfl, rfl, h0, h1, h2⟩ := trodAll_three hA
  obtain ⟨rfl, rfl⟩ := trodVars_none hV
  obtain ⟨y0, t0, rfl, hB0⟩ := open_prop (hval 0 41 v0 rfl rfl) h0
  obtain ⟨y1, t1, rfl, hB1⟩ := open_table (hval 1 28 v1 rfl rfl) h1
  obtain ⟨A2, c2, xs2, a2, rfl, hc2, hm2, hR2, -, wa2⟩ := open_place (hval 2 43 v2 rfl rfl) h2
  refine (walk W y0 t0 hB0 y1 t1 hB1 A2 c2 xs2 a2 hc2 hm2 hR2 (wf_i64 wa2)).mono fun e W' ⟨he, hb⟩ => ⟨_, he, ?_⟩
  exact law_post laidOut (by rw [Try.params7]; exact of_decide_eq_true (by kernel_rfl)) rfl rfl Try.underlying4 hW' rfl hb
theorem holds : Rows.AnywhereVisitsSaid :=
  OpenClaim.holds_of_wide 7 Try.f7 rfl rfl rfl rfl rfl rfl rfl ⟨rfl, rfl, rfl, rfl, rfl⟩ rfl rfl rfl rfl rfl (by kernel_rfl) Try.func7 (by kernel_rfl)
    (of_decide_eq_true (by kernel_rfl)) (by unfold Func.isWrapper; first | (rw [if_pos (by decide +kernel)]; kernel_rfl) | (rw [if_neg (by decide +kernel)]; exact ⟨rfl, rfl⟩))
    (fun os started H enc _ => lifted os started H enc)
end Go.Proofs.Ytkoojoogddndnaa.LVisits
namespace Go.Proofs.Ytkoojoogddndnaa
theorem anywhereVisits_holds : Rows.AnywhereVisitsSaid := LVisits.holds
end Go.Proofs.Ytkoojoogddndnaa
