/-
  AnywhereWalks: for every input the law returns true, and its arguments read as before. No condition.
-/
import Derived.Test.YtkoojoogddndnaaRows
import Derived.Test.YtkoojoogddndnaaLift
import Derived.Test.YtkoojoogddndnaaBo0
import Derived.Test.YtkoojoogddndnaaBo4
import Derived.BigQuiet
namespace Go.Proofs.Ytkoojoogddndnaa.LWalks
open Go.ChangeShapes Go.WideShapes Go.ChangeAt Go.RowKit Go.UtYtkoojoogddndnaa Go.Joins
set_option maxRecDepth 100000 in
set_option maxHeartbeats 4000000 in
theorem walk (w : World) (x : PA) (p : PR) (hP : PrAt w w.heap.size x p) (y : TA) (t : BT) (hB : TabAt w w.heap.size y t) (At : Option Addr) (ct : Nat) (text : List Int) (a : Int) (_hc : text.length ≤ ct) (_hm : ct ≤ maxLen) (hT : Row w w.heap.size At (ints text)) (_ha : -9223372036854775808 ≤ a ∧ a ≤ 9223372036854775807) :
    Calls Try.prog 5 #[x.val p, y.val t, .agg #[.slice At text.length ct, .int .i64 a]] w fun e w' => e = .returned (.bool true) ∧ Below w.heap.size w w' := by
  have CF0 := Lib.hid (fun (u : World) (hu : Below w.heap.size w u) (v : Bool) (hv : v = true ↔ smT t ∧ text.length ≤ 40) => few31_any y t At text.length ct u (hB.below hu).lt v hv)
  have CQ0 := Lib.hid (fun (u : World) (v : Bool) (hv : v = true ↔ p.names.length ≤ 300 ∧ p.spans.length ≤ 16) => few10_any x p 16 u v hv)
  obtain ⟨rl0, rh0, ok0, hr⟩ : ∃ rl rh ok, arV (ptsL p t text) a = (rl, rh, ok) := ⟨_, _, _, rfl⟩
  have CA0 := Lib.hid (fun (u : World) (hu : Below w.heap.size w u)  (hs : smT t ∧ text.length ≤ 40) (hp : p.names.length ≤ 300 ∧ p.spans.length ≤ 16) => around_any x p y t At ct text u (hP.below hu).lt (by have := hp.2; omega) (hB.below hu).lt ⟨by have := hs.1.1.1; omega, by have := hs.1.1.2; omega⟩ (hT.below hu).lt (by omega) a rl0 rh0 ok0 hr)
  have CAr0 := Lib.hid (fun (u : World) (hu : Below w.heap.size w u)  (hs : smT t ∧ text.length ≤ 40) (hp : p.names.length ≤ 300 ∧ p.spans.length ≤ 16) => raround_any x p y t At ct text u (hP.below hu).lt (by have := hp.2; omega) (hB.below hu).lt ⟨by have := hs.1.1.1; omega, by have := hs.1.1.2; omega⟩ (hT.below hu).lt (by omega) a rl0 rh0 ok0 hr)
  have CI0 := Lib.hid (fun (u : World) (hu : Below w.heap.size w u) (z : Int) (hs : smT t ∧ text.length ≤ 40) (hp : p.names.length ≤ 300 ∧ p.spans.length ≤ 16) => is_any x p y t At ct text u (hP.below hu).lt (by have := hp.2; omega) (hB.below hu).lt ⟨by have := hs.1.1.1; omega, by have := hs.1.1.2; omega⟩ (hT.below hu).lt (by omega) z)
  have CIr0 := Lib.hid (fun (u : World) (hu : Below w.heap.size w u) (z : Int) (hs : smT t ∧ text.length ≤ 40) (hp : p.names.length ≤ 300 ∧ p.spans.length ≤ 16) => ris_any x p y t At ct text u (hP.below hu).lt (by have := hp.2; omega) (hB.below hu).lt ⟨by have := hs.1.1.1; omega, by have := hs.1.1.2; omega⟩ (hT.below hu).lt (by omega) z)
  have CN0 := Lib.hid (fun (u : World) (hu : Below w.heap.size w u) (z : Int) (hs : smT t ∧ text.length ≤ 40) (hp : p.names.length ≤ 300 ∧ p.spans.length ≤ 16) => next_any x p y t At ct text u (hP.below hu).lt (by have := hp.2; omega) (hB.below hu).lt ⟨by have := hs.1.1.1; omega, by have := hs.1.1.2; omega⟩ (hT.below hu).lt (by omega) z)
  have CNr0 := Lib.hid (fun (u : World) (hu : Below w.heap.size w u) (z : Int) (hs : smT t ∧ text.length ≤ 40) (hp : p.names.length ≤ 300 ∧ p.spans.length ≤ 16) => rnext_any x p y t At ct text u (hP.below hu).lt (by have := hp.2; omega) (hB.below hu).lt ⟨by have := hs.1.1.1; omega, by have := hs.1.1.2; omega⟩ (hT.below hu).lt (by omega) z)
  have CV0 := Lib.hid (fun (u : World) (hu : Below w.heap.size w u) (z : Int) (hs : smT t ∧ text.length ≤ 40) (hp : p.names.length ≤ 300 ∧ p.spans.length ≤ 16) => prev_any x p y t At ct text u (hP.below hu).lt (by have := hp.2; omega) (hB.below hu).lt ⟨by have := hs.1.1.1; omega, by have := hs.1.1.2; omega⟩ (hT.below hu).lt (by omega) z)
  have CVr0 := Lib.hid (fun (u : World) (hu : Below w.heap.size w u) (z : Int) (hs : smT t ∧ text.length ≤ 40) (hp : p.names.length ≤ 300 ∧ p.spans.length ≤ 16) => rprev_any x p y t At ct text u (hP.below hu).lt (by have := hp.2; omega) (hB.below hu).lt ⟨by have := hs.1.1.1; omega, by have := hs.1.1.2; omega⟩ (hT.below hu).lt (by omega) z)
  unfold TA.val at CF0 CA0 CAr0 CI0 CIr0 CN0 CNr0 CV0 CVr0 ⊢
  unfold PA.val at CQ0 CA0 CAr0 CI0 CIr0 CN0 CNr0 CV0 CVr0 ⊢
  obtain ⟨w1, hw1, HB1, HK1⟩ := boxV w 41 #[.slice x.n p.names.length x.cn, .slice x.s p.spans.length x.cs]
  obtain ⟨w2, hw2, HB2', HK2'⟩ := boxT w1 28 y t
  obtain ⟨w3, hw3, HB3', HK3'⟩ := boxV w2 43 #[.slice At text.length ct, .int .i64 a]
  have HB2 := Lib.hid (HB1.out.trans (HB2'.out.mono HB1.out.size))
  have HB3 := Lib.hid (HB2.out.trans (HB3'.out.mono HB2.out.size))
  have hs1 : w1.heap.size = w.heap.size + 1 := by rw [hw1]; simp
  have hs2 : w2.heap.size = w.heap.size + 1 + 1 := by rw [hw2, World.size_alloc, hs1]
  obtain ⟨g, hg⟩ : ∃ g, g = w1.heap.size := ⟨_, rfl⟩
  obtain ⟨gx, hgx⟩ : ∃ g, g = w2.heap.size := ⟨_, rfl⟩
  rw [← hg] at HK2'
  rw [← hgx] at HK3'
  have hgw : g = w.heap.size + 1 := by omega
  have hgxw : gx = w.heap.size + 1 + 1 := by omega
  have HQ3 := Lib.hid ((HK1.out.after HB2'.out).after HB3'.out)
  have HT3 := Lib.hid (HK2'.out.after HB3'.out)
  have HX3 := Lib.hid HK3'.out
  obtain ⟨q0, q1, ql⟩ := blk2 HQ3.out
  obtain ⟨r0, r1, r2, r3, r4, r5, rl⟩ := tab6 HT3.out
  obtain ⟨s0, s1, sl⟩ := blk2 HX3.out
  by_cases hs : smT t ∧ text.length ≤ 40
  case neg =>
    have CF := Lib.hid (CF0.out w3 HB3.out false ⟨fun h => (by cases h), fun h => absurd h hs⟩)
    obtain ⟨n, hn⟩ : ∃ n, text.length = n := ⟨_, rfl⟩
    rw [hn] at CF s0 hw3 ⊢
    clear CF0 CQ0 CA0 CAr0 CI0 CIr0 CN0 CNr0 CV0 CVr0 hs hn hB hP hT _hc
    go_enter Try.func5, Try.ntmps5
    go_upto_region 1 with fail
    rw [← hw1, ← hw2, ← hw3, ← hgxw, ← hgw]
    clear hw1 hw2 hw3 hs1 hs2 hg hgw hgx hgxw
    go_wp2_with fail
    refine (CF.out).mono ?_
    rintro e w4 ⟨rfl, hb4⟩
    have HB4 := Lib.hid (HB3.out.trans (hb4.mono HB3.out.size))
    have HQ4 := Lib.hid (HQ3.out.after hb4)
    have HT4 := Lib.hid (HT3.out.after hb4)
    have HX4 := Lib.hid (HX3.out.after hb4)
    clear hb4
    clear q0 q1 ql r0 r1 r2 r3 r4 r5 rl s0 s1 sl
    go_wp2_with fail
    refine (alive_any _).mono ?_
    rintro e w5 ⟨rfl, hb5⟩
    have HB5 := Lib.hid (HB4.out.trans (hb5.mono HB4.out.size))
    clear hb5
    go_wp2
    go_ret
    exact ⟨rfl, HB5.out⟩
  case pos =>
  by_cases hp : p.names.length ≤ 300 ∧ p.spans.length ≤ 16
  case neg =>
    have CF := Lib.hid (CF0.out w3 HB3.out true ⟨fun _ => hs, fun _ => rfl⟩)
    have CQ := Lib.hid (fun u => CQ0.out u false ⟨fun h => (by cases h), fun h => absurd h hp⟩)
    obtain ⟨n, hn⟩ : ∃ n, text.length = n := ⟨_, rfl⟩
    rw [hn] at CF s0 hw3 HX3 ⊢
    clear CF0 CQ0 CA0 CAr0 CI0 CIr0 CN0 CNr0 CV0 CVr0 hs hp hn hB hP hT _hc
    go_enter Try.func5, Try.ntmps5
    go_upto_region 1 with fail
    rw [← hw1, ← hw2, ← hw3, ← hgxw, ← hgw]
    clear hw1 hw2 hw3 hs1 hs2 hg hgw hgx hgxw
    go_wp2_with fail
    refine (CF.out).mono ?_
    rintro e w4 ⟨rfl, hb4⟩
    have HB4 := Lib.hid (HB3.out.trans (hb4.mono HB3.out.size))
    have HQ4 := Lib.hid (HQ3.out.after hb4)
    have HT4 := Lib.hid (HT3.out.after hb4)
    have HX4 := Lib.hid (HX3.out.after hb4)
    clear hb4
    clear q0 q1 ql r0 r1 r2 r3 r4 r5 rl s0 s1 sl
    obtain ⟨q0, q1, ql⟩ := blk2 HQ4.out
    obtain ⟨r0, r1, r2, r3, r4, r5, rl⟩ := tab6 HT4.out
    obtain ⟨s0, s1, sl⟩ := blk2 HX4.out
    go_wp2_with fail
    refine (CQ.out w4).mono ?_
    rintro e w5 ⟨rfl, hb5⟩
    have HB5 := Lib.hid (HB4.out.trans (hb5.mono HB4.out.size))
    have HQ5 := Lib.hid (HQ4.out.after hb5)
    have HT5 := Lib.hid (HT4.out.after hb5)
    have HX5 := Lib.hid (HX4.out.after hb5)
    clear hb5
    clear q0 q1 ql r0 r1 r2 r3 r4 r5 rl s0 s1 sl
    go_wp2_with fail
    refine (alive_any _).mono ?_
    rintro e w6 ⟨rfl, hb6⟩
    have HB6 := Lib.hid (HB5.out.trans (hb6.mono HB5.out.size))
    clear hb6
    go_wp2
    go_ret
    exact ⟨rfl, HB6.out⟩
  case pos =>
    have CF := Lib.hid (CF0.out w3 HB3.out true ⟨fun _ => hs, fun _ => rfl⟩)
    have CQ := Lib.hid (fun u => CQ0.out u true ⟨fun _ => hp, fun _ => rfl⟩)
    have CA := Lib.hid (fun (u : World) (hu : Below w.heap.size w u)  => CA0.out u hu  hs hp)
    have CAr := Lib.hid (fun (u : World) (hu : Below w.heap.size w u)  => CAr0.out u hu  hs hp)
    have CI := Lib.hid (fun (u : World) (hu : Below w.heap.size w u) (z : Int) => CI0.out u hu z hs hp)
    have CIr := Lib.hid (fun (u : World) (hu : Below w.heap.size w u) (z : Int) => CIr0.out u hu z hs hp)
    have CN := Lib.hid (fun (u : World) (hu : Below w.heap.size w u) (z : Int) => CN0.out u hu z hs hp)
    have CNr := Lib.hid (fun (u : World) (hu : Below w.heap.size w u) (z : Int) => CNr0.out u hu z hs hp)
    have CV := Lib.hid (fun (u : World) (hu : Below w.heap.size w u) (z : Int) => CV0.out u hu z hs hp)
    have CVr := Lib.hid (fun (u : World) (hu : Below w.heap.size w u) (z : Int) => CVr0.out u hu z hs hp)
    have CIa := Lib.hid (fun (u : World) (hu : Below w.heap.size w u) => CI.out u hu a)
    have CIra := Lib.hid (fun (u : World) (hu : Below w.heap.size w u) => CIr.out u hu a)
    have CNa := Lib.hid (fun (u : World) (hu : Below w.heap.size w u) => CN.out u hu a)
    have CNra := Lib.hid (fun (u : World) (hu : Below w.heap.size w u) => CNr.out u hu a)
    have CVa := Lib.hid (fun (u : World) (hu : Below w.heap.size w u) => CV.out u hu a)
    have CVra := Lib.hid (fun (u : World) (hu : Below w.heap.size w u) => CVr.out u hu a)
    obtain ⟨vi, hvi⟩ : ∃ v, decide (a ∈ bndL p t text) = v := ⟨_, rfl⟩
    obtain ⟨vn, hvn⟩ : ∃ v, nextL (bndL p t text) a = v := ⟨_, rfl⟩
    obtain ⟨vp, hvp⟩ : ∃ v, prevL (bndL p t text) a = v := ⟨_, rfl⟩
    rw [hvi] at CIa CIra
    rw [hvn] at CNa CNra
    rw [hvp] at CVa CVra
    clear hvi hvn hvp CI CIr CN CNr CV CVr
    have her := eq_rg
    obtain ⟨n, hn⟩ : ∃ n, text.length = n := ⟨_, rfl⟩
    have HN := Lib.hid hn
    have hn40 : n ≤ 40 := by have := hs.2; omega
    rw [hn] at CF s0 hw3 HX3 CA CAr CIa CIra CNa CNra CVa CVra ⊢
    clear CF0 CQ0 CA0 CAr0 CI0 CIr0 CN0 CNr0 CV0 CVr0 hp hn hB hP hT _hc hs
    go_enter Try.func5, Try.ntmps5
    go_upto_region 1 with fail
    rw [← hw1, ← hw2, ← hw3, ← hgxw, ← hgw]
    clear hw1 hw2 hw3 hs1 hs2 hg hgw hgx hgxw
    go_wp2_with fail
    refine (CF.out).mono ?_
    rintro e w4 ⟨rfl, hb4⟩
    have HB4 := Lib.hid (HB3.out.trans (hb4.mono HB3.out.size))
    have HQ4 := Lib.hid (HQ3.out.after hb4)
    have HT4 := Lib.hid (HT3.out.after hb4)
    have HX4 := Lib.hid (HX3.out.after hb4)
    clear hb4
    clear q0 q1 ql r0 r1 r2 r3 r4 r5 rl s0 s1 sl
    obtain ⟨q0, q1, ql⟩ := blk2 HQ4.out
    obtain ⟨r0, r1, r2, r3, r4, r5, rl⟩ := tab6 HT4.out
    obtain ⟨s0, s1, sl⟩ := blk2 HX4.out
    go_wp2_with fail
    refine (CQ.out w4).mono ?_
    rintro e w5 ⟨rfl, hb5⟩
    have HB5 := Lib.hid (HB4.out.trans (hb5.mono HB4.out.size))
    have HQ5 := Lib.hid (HQ4.out.after hb5)
    have HT5 := Lib.hid (HT4.out.after hb5)
    have HX5 := Lib.hid (HX4.out.after hb5)
    clear hb5
    clear q0 q1 ql r0 r1 r2 r3 r4 r5 rl s0 s1 sl
    obtain ⟨q0, q1, ql⟩ := blk2 HQ5.out
    obtain ⟨r0, r1, r2, r3, r4, r5, rl⟩ := tab6 HT5.out
    obtain ⟨s0, s1, sl⟩ := blk2 HX5.out
    go_wp2_with fail
    refine (CA.out w5 HB5.out).mono ?_
    rintro e w6 ⟨rfl, hb6⟩
    have HB6 := Lib.hid (HB5.out.trans (hb6.mono HB5.out.size))
    have HQ6 := Lib.hid (HQ5.out.after hb6)
    have HT6 := Lib.hid (HT5.out.after hb6)
    have HX6 := Lib.hid (HX5.out.after hb6)
    clear hb6
    clear q0 q1 ql r0 r1 r2 r3 r4 r5 rl s0 s1 sl
    obtain ⟨w7, hw7, HC7, HR7⟩ := boxV w6 46 #[.int .i64 rl0, .int .i64 rh0]
    obtain ⟨g1, hg1⟩ : ∃ g, g = w6.heap.size := ⟨_, rfl⟩
    rw [← hg1] at HR7
    have HB7 := Lib.hid (HB6.out.trans (HC7.out.mono HB6.out.size))
    have HQ7 := Lib.hid (HQ6.out.after HC7.out)
    have HT7 := Lib.hid (HT6.out.after HC7.out)
    have HX7 := Lib.hid (HX6.out.after HC7.out)
    obtain ⟨q0, q1, ql⟩ := blk2 HQ6.out
    obtain ⟨r0, r1, r2, r3, r4, r5, rl⟩ := tab6 HT6.out
    obtain ⟨s0, s1, sl⟩ := blk2 HX6.out
    go_wp2_with fail
    rw [← hw7, ← hg1]
    clear hw7 hg1 HC7
    refine (CAr.out w7 HB7.out).mono ?_
    rintro e w8 ⟨rfl, hb8⟩
    have HB8 := Lib.hid (HB7.out.trans (hb8.mono HB7.out.size))
    have HQ8 := Lib.hid (HQ7.out.after hb8)
    have HT8 := Lib.hid (HT7.out.after hb8)
    have HX8 := Lib.hid (HX7.out.after hb8)
    have HR8 := Lib.hid (HR7.out.after hb8)
    clear hb8
    clear q0 q1 ql r0 r1 r2 r3 r4 r5 rl s0 s1 sl
    obtain ⟨w9, hw9, HC9, HU9⟩ := boxV w8 46 #[.int .i64 rl0, .int .i64 rh0]
    obtain ⟨g2, hg2⟩ : ∃ g, g = w8.heap.size := ⟨_, rfl⟩
    rw [← hg2] at HU9
    have HB9 := Lib.hid (HB8.out.trans (HC9.out.mono HB8.out.size))
    have HQ9 := Lib.hid (HQ8.out.after HC9.out)
    have HT9 := Lib.hid (HT8.out.after HC9.out)
    have HX9 := Lib.hid (HX8.out.after HC9.out)
    have HR9 := Lib.hid (HR8.out.after HC9.out)
    go_wp2
    rw [← hw9, ← hg2]
    clear hw9 hg2 HC9
    refine wp_region_tree (fun w' => Blk w' w.heap.size 41 #[.slice x.n p.names.length x.cn, .slice x.s p.spans.length x.cs] ∧ Blk w' g 28 (y.cs t) ∧ Blk w' gx 43 #[.slice At n ct, .int .i64 a] ∧ Blk w' g1 46 #[.int .i64 rl0, .int .i64 rh0] ∧ Blk w' g2 46 #[.int .i64 rl0, .int .i64 rh0]) (.float 0 (.float 1 (.float 2 (.float 3 (.float 4 (.float 5 (.float 6 (.float 7 (.float 8 (.float 9 (.float 10 (.float 11 (.float 12 (.float 13 (.float 14 (.float 16 (.float 17 (.float 18 (.float 19 (.float 20 (.float 21 (.one 15 (.one 22 (.float 23 (.float 24 (.float 25 (.float 26 (.float 27 (.float 28 (.float 29 (.float 30 (.float 31 (.float 33 (.float 34 (.float 35 (.float 36 (.float 37 (.float 38 (.one 32 (.one 39 (.float 40 (.float 41 (.float 42 (.float 43 (.float 44 (.float 45 (.float 46 (.float 47 (.float 48 (.float 50 (.float 51 (.float 52 (.float 53 (.float 54 (.float 55 (.one 49 (.one 56 (.float 57 (.float 58 (.float 59 (.one 60 (.float 61 (.float 62 .done))))))))))))))))))))))))))))))))))))))))))))))))))))))))))))))) (by kernel_rfl) (by kernel_rfl) (fun _ _ d _ _ h => by cases d <;> exact h) ⟨HQ9.out.drew, HT9.out.drew, HX9.out.drew, HR9.out.drew, HU9.out.drew⟩ ?_
    repeat (first
      | (refine wpTr_fskip (by simp only [List.getElem?_toArray, List.getElem?_cons_zero, List.getElem?_cons_succ]; rfl) (by rfl) ?_
         simp only [Act.put, List.setIfInBounds_toArray, List.set_cons_zero, List.set_cons_succ])
      | (refine wpTr_float (v := ?_) (by simp only [List.getElem?_toArray, List.getElem?_cons_zero, List.getElem?_cons_succ]; rfl) (by rfl) (fun w' hS => ?_) ?_
         rotate_left
         ((try (obtain ⟨hSA, hSB, hSC, hSD, hSE⟩ := hS; obtain ⟨e0', e1', el'⟩ := blk2 hSA; obtain ⟨f0', f1', f2', f3', f4', f5', fl'⟩ := tab6 hSB; obtain ⟨h0', h1', hl'⟩ := blk2 hSC; obtain ⟨i0', i1', il'⟩ := blk2 hSD; obtain ⟨j0', j1', jl'⟩ := blk2 hSE)); go_simp; first | done | rfl)
         simp only [Act.put, List.setIfInBounds_toArray, List.set_cons_zero, List.set_cons_succ]))
    refine wpTr_one ?_
    refine stepTr_K (by simp only [List.getElem?_toArray, List.getElem?_cons_zero, List.getElem?_cons_succ]; rfl) (by rfl) (fun K hK => ?_)
    go_simp
    refine (CIa.out w9.drew HB9.out.drew).mono ?_
    rintro e w10 ⟨rfl, hb10⟩
    have hb10x : Below w9.heap.size w9 w10 := (Below.refl _ _).drew.trans hb10
    have HB10 := Lib.hid (HB9.out.trans (hb10x.mono HB9.out.size))
    have HQ10 := Lib.hid (HQ9.out.after hb10x)
    have HT10 := Lib.hid (HT9.out.after hb10x)
    have HX10 := Lib.hid (HX9.out.after hb10x)
    have HR10 := Lib.hid (HR9.out.after hb10x)
    have HU10 := Lib.hid (HU9.out.after hb10x)
    refine hK.out _ _ ⟨HQ10.out, HT10.out, HX10.out, HR10.out, HU10.out⟩ ?_
    clear hK K hb10 hb10x
    try simp only [Act.put, List.setIfInBounds_toArray, List.set_cons_zero, List.set_cons_succ]
    refine wpTr_one ?_
    refine stepTr_K (by simp only [List.getElem?_toArray, List.getElem?_cons_zero, List.getElem?_cons_succ]; rfl) (by rfl) (fun K hK => ?_)
    go_simp
    refine (CIra.out w10 HB10.out).mono ?_
    rintro e w11 ⟨rfl, hb11⟩
    have HB11 := Lib.hid (HB10.out.trans (hb11.mono HB10.out.size))
    have HQ11 := Lib.hid (HQ10.out.after hb11)
    have HT11 := Lib.hid (HT10.out.after hb11)
    have HX11 := Lib.hid (HX10.out.after hb11)
    have HR11 := Lib.hid (HR10.out.after hb11)
    have HU11 := Lib.hid (HU10.out.after hb11)
    refine hK.out _ _ ⟨HQ11.out, HT11.out, HX11.out, HR11.out, HU11.out⟩ ?_
    clear hK K hb11
    try simp only [Act.put, List.setIfInBounds_toArray, List.set_cons_zero, List.set_cons_succ]
    repeat (first
      | (refine wpTr_fskip (by simp only [List.getElem?_toArray, List.getElem?_cons_zero, List.getElem?_cons_succ]; rfl) (by rfl) ?_
         simp only [Act.put, List.setIfInBounds_toArray, List.set_cons_zero, List.set_cons_succ])
      | (refine wpTr_float (v := ?_) (by simp only [List.getElem?_toArray, List.getElem?_cons_zero, List.getElem?_cons_succ]; rfl) (by rfl) (fun w' hS => ?_) ?_
         rotate_left
         ((try (obtain ⟨hSA, hSB, hSC, hSD, hSE⟩ := hS; obtain ⟨e0', e1', el'⟩ := blk2 hSA; obtain ⟨f0', f1', f2', f3', f4', f5', fl'⟩ := tab6 hSB; obtain ⟨h0', h1', hl'⟩ := blk2 hSC; obtain ⟨i0', i1', il'⟩ := blk2 hSD; obtain ⟨j0', j1', jl'⟩ := blk2 hSE)); go_simp; first | done | rfl)
         simp only [Act.put, List.setIfInBounds_toArray, List.set_cons_zero, List.set_cons_succ]))
    refine wpTr_one ?_
    refine stepTr_K (by simp only [List.getElem?_toArray, List.getElem?_cons_zero, List.getElem?_cons_succ]; rfl) (by rfl) (fun K hK => ?_)
    go_simp
    refine (CNa.out w11 HB11.out).mono ?_
    rintro e w12 ⟨rfl, hb12⟩
    have HB12 := Lib.hid (HB11.out.trans (hb12.mono HB11.out.size))
    have HQ12 := Lib.hid (HQ11.out.after hb12)
    have HT12 := Lib.hid (HT11.out.after hb12)
    have HX12 := Lib.hid (HX11.out.after hb12)
    have HR12 := Lib.hid (HR11.out.after hb12)
    have HU12 := Lib.hid (HU11.out.after hb12)
    refine hK.out _ _ ⟨HQ12.out, HT12.out, HX12.out, HR12.out, HU12.out⟩ ?_
    clear hK K hb12
    try simp only [Act.put, List.setIfInBounds_toArray, List.set_cons_zero, List.set_cons_succ]
    refine wpTr_one ?_
    refine stepTr_K (by simp only [List.getElem?_toArray, List.getElem?_cons_zero, List.getElem?_cons_succ]; rfl) (by rfl) (fun K hK => ?_)
    go_simp
    refine (CNra.out w12 HB12.out).mono ?_
    rintro e w13 ⟨rfl, hb13⟩
    have HB13 := Lib.hid (HB12.out.trans (hb13.mono HB12.out.size))
    have HQ13 := Lib.hid (HQ12.out.after hb13)
    have HT13 := Lib.hid (HT12.out.after hb13)
    have HX13 := Lib.hid (HX12.out.after hb13)
    have HR13 := Lib.hid (HR12.out.after hb13)
    have HU13 := Lib.hid (HU12.out.after hb13)
    refine hK.out _ _ ⟨HQ13.out, HT13.out, HX13.out, HR13.out, HU13.out⟩ ?_
    clear hK K hb13
    try simp only [Act.put, List.setIfInBounds_toArray, List.set_cons_zero, List.set_cons_succ]
    repeat (first
      | (refine wpTr_fskip (by simp only [List.getElem?_toArray, List.getElem?_cons_zero, List.getElem?_cons_succ]; rfl) (by rfl) ?_
         simp only [Act.put, List.setIfInBounds_toArray, List.set_cons_zero, List.set_cons_succ])
      | (refine wpTr_float (v := ?_) (by simp only [List.getElem?_toArray, List.getElem?_cons_zero, List.getElem?_cons_succ]; rfl) (by rfl) (fun w' hS => ?_) ?_
         rotate_left
         ((try (obtain ⟨hSA, hSB, hSC, hSD, hSE⟩ := hS; obtain ⟨e0', e1', el'⟩ := blk2 hSA; obtain ⟨f0', f1', f2', f3', f4', f5', fl'⟩ := tab6 hSB; obtain ⟨h0', h1', hl'⟩ := blk2 hSC; obtain ⟨i0', i1', il'⟩ := blk2 hSD; obtain ⟨j0', j1', jl'⟩ := blk2 hSE)); go_simp; first | done | rfl)
         simp only [Act.put, List.setIfInBounds_toArray, List.set_cons_zero, List.set_cons_succ]))
    refine wpTr_one ?_
    refine stepTr_K (by simp only [List.getElem?_toArray, List.getElem?_cons_zero, List.getElem?_cons_succ]; rfl) (by rfl) (fun K hK => ?_)
    go_simp
    refine (CVa.out w13 HB13.out).mono ?_
    rintro e w14 ⟨rfl, hb14⟩
    have HB14 := Lib.hid (HB13.out.trans (hb14.mono HB13.out.size))
    have HQ14 := Lib.hid (HQ13.out.after hb14)
    have HT14 := Lib.hid (HT13.out.after hb14)
    have HX14 := Lib.hid (HX13.out.after hb14)
    have HR14 := Lib.hid (HR13.out.after hb14)
    have HU14 := Lib.hid (HU13.out.after hb14)
    refine hK.out _ _ ⟨HQ14.out, HT14.out, HX14.out, HR14.out, HU14.out⟩ ?_
    clear hK K hb14
    try simp only [Act.put, List.setIfInBounds_toArray, List.set_cons_zero, List.set_cons_succ]
    refine wpTr_one ?_
    refine stepTr_K (by simp only [List.getElem?_toArray, List.getElem?_cons_zero, List.getElem?_cons_succ]; rfl) (by rfl) (fun K hK => ?_)
    go_simp
    refine (CVra.out w14 HB14.out).mono ?_
    rintro e w15 ⟨rfl, hb15⟩
    have HB15 := Lib.hid (HB14.out.trans (hb15.mono HB14.out.size))
    have HQ15 := Lib.hid (HQ14.out.after hb15)
    have HT15 := Lib.hid (HT14.out.after hb15)
    have HX15 := Lib.hid (HX14.out.after hb15)
    have HR15 := Lib.hid (HR14.out.after hb15)
    have HU15 := Lib.hid (HU14.out.after hb15)
    refine hK.out _ _ ⟨HQ15.out, HT15.out, HX15.out, HR15.out, HU15.out⟩ ?_
    clear hK K hb15
    try simp only [Act.put, List.setIfInBounds_toArray, List.set_cons_zero, List.set_cons_succ]
    repeat (first
      | (refine wpTr_fskip (by simp only [List.getElem?_toArray, List.getElem?_cons_zero, List.getElem?_cons_succ]; rfl) (by rfl) ?_
         simp only [Act.put, List.setIfInBounds_toArray, List.set_cons_zero, List.set_cons_succ])
      | (refine wpTr_float (v := ?_) (by simp only [List.getElem?_toArray, List.getElem?_cons_zero, List.getElem?_cons_succ]; rfl) (by rfl) (fun w' hS => ?_) ?_
         rotate_left
         ((try (obtain ⟨hSA, hSB, hSC, hSD, hSE⟩ := hS; obtain ⟨e0', e1', el'⟩ := blk2 hSA; obtain ⟨f0', f1', f2', f3', f4', f5', fl'⟩ := tab6 hSB; obtain ⟨h0', h1', hl'⟩ := blk2 hSC; obtain ⟨i0', i1', il'⟩ := blk2 hSD; obtain ⟨j0', j1', jl'⟩ := blk2 hSE)); go_simp; first | done | rfl)
         simp only [Act.put, List.setIfInBounds_toArray, List.set_cons_zero, List.set_cons_succ]))
    refine wpTr_one ?_
    refine stepTr_K (by simp only [List.getElem?_toArray, List.getElem?_cons_zero, List.getElem?_cons_succ]; rfl) (by rfl) (fun K hK => ?_)
    go_simp
    refine (alive_any w15).mono ?_
    rintro e w16 ⟨rfl, hb16⟩
    have HB16 := Lib.hid (HB15.out.trans (hb16.mono HB15.out.size))
    have HQ16 := Lib.hid (HQ15.out.after hb16)
    have HT16 := Lib.hid (HT15.out.after hb16)
    have HX16 := Lib.hid (HX15.out.after hb16)
    have HR16 := Lib.hid (HR15.out.after hb16)
    have HU16 := Lib.hid (HU15.out.after hb16)
    refine hK.out _ _ ⟨HQ16.out, HT16.out, HX16.out, HR16.out, HU16.out⟩ ?_
    clear hK K hb16
    try simp only [Act.put, List.setIfInBounds_toArray, List.set_cons_zero, List.set_cons_succ]
    repeat (first
      | (refine wpTr_fskip (by simp only [List.getElem?_toArray, List.getElem?_cons_zero, List.getElem?_cons_succ]; rfl) (by rfl) ?_
         simp only [Act.put, List.setIfInBounds_toArray, List.set_cons_zero, List.set_cons_succ])
      | (refine wpTr_float (v := ?_) (by simp only [List.getElem?_toArray, List.getElem?_cons_zero, List.getElem?_cons_succ]; rfl) (by rfl) (fun w' hS => ?_) ?_
         rotate_left
         ((try (obtain ⟨hSA, hSB, hSC, hSD, hSE⟩ := hS; obtain ⟨e0', e1', el'⟩ := blk2 hSA; obtain ⟨f0', f1', f2', f3', f4', f5', fl'⟩ := tab6 hSB; obtain ⟨h0', h1', hl'⟩ := blk2 hSC; obtain ⟨i0', i1', il'⟩ := blk2 hSD; obtain ⟨j0', j1', jl'⟩ := blk2 hSE)); go_simp; first | done | rfl)
         simp only [Act.put, List.setIfInBounds_toArray, List.set_cons_zero, List.set_cons_succ]))
    refine wpTr_done ?_
    go_wp2
    go_ret
    exact ⟨rfl, HB16.out⟩
theorem own : ownKnob Try.prog.godebug = none := by kernel_rfl
theorem laidOut : laidOutB Try.prog = true := by kernel_rfl
set_option maxRecDepth 100000 in
theorem lifted (os : Os) (started : os.Started) (H : Type) (enc : TypeId × Value → H) :
    ReturnsInHanded {} Try.checked os 5 .any (Rows.anywhereWalksSpec.pre6 enc Try.prog Try.f5 Rows.anywhereWalksRow.domain false) (Rows.anywhereWalksSpec.post enc Try.prog Try.f5 false true false false) := by
  refine returnsInHanded_of_change (C := Try.checked) own started (by kernel_rfl) Try.func5
    (ChangeSpec.witness6 (enc := enc) (C := Try.checked) false ⟨#[], #[.agg #[.slice none 0 0, .slice none 0 0], .agg #[.slice none 0 0, .slice none 0 0, .slice none 0 0, .slice none 0 0, .slice none 0 0, .slice none 0 0], .agg #[.slice none 0 0, .int .i64 0]], []⟩ 8 (by kernel_rfl) (by kernel_rfl) (by kernel_rfl) (by kernel_rfl)) ?_
  intro W base args ds gs before hval0 hW hcnd _
  have hval : ∀ (j : Nat) t v, Try.f5.params[j]? = some t → args[j]? = some v → Value.okWide Try.prog W .any base t v := hval0
  have hW' := hW
  obtain ⟨p, q, hA0, hV, rfl, hfz, hnd⟩ := hW
  have hA : DataW.TrodAll enc Try.prog W 0 (fun _ => true) true Try.f5.params.toList args.toList ds p := hA0
  rw [Try.params5] at hA hval
  obtain ⟨v0, v1, v2, d0, d1, d2, p0, p1, p2, rfl, rfl, rfl, h0, h1, h2⟩ := trodAll_three hA
  obtain ⟨rfl, rfl⟩ := trodVars_none hV
  obtain ⟨y0, t0, rfl, hB0⟩ := open_prop (hval 0 41 v0 rfl rfl) h0
  obtain ⟨y1, t1, rfl, hB1⟩ := open_table (hval 1 28 v1 rfl rfl) h1
  obtain ⟨A2, c2, xs2, a2, rfl, hc2, hm2, hR2, -, wa2⟩ := open_place (hval 2 43 v2 rfl rfl) h2
  refine (walk W y0 t0 hB0 y1 t1 hB1 A2 c2 xs2 a2 hc2 hm2 hR2 (wf_i64 wa2)).mono fun e W' ⟨he, hb⟩ => ⟨_, he, ?_⟩
  exact law_post laidOut (by rw [Try.params5]; exact of_decide_eq_true (by kernel_rfl)) rfl rfl Try.underlying4 hW' rfl hb
theorem holds : Rows.AnywhereWalksSaid :=
  OpenClaim.holds_of_wide 5 Try.f5 rfl rfl rfl rfl rfl rfl rfl ⟨rfl, rfl, rfl, rfl, rfl⟩ rfl rfl rfl rfl rfl (by kernel_rfl) Try.func5 (by kernel_rfl)
    (of_decide_eq_true (by kernel_rfl)) (by unfold Func.isWrapper; first | (rw [if_pos (by decide +kernel)]; kernel_rfl) | (rw [if_neg (by decide +kernel)]; exact ⟨rfl, rfl⟩))
    (fun os started H enc _ => lifted os started H enc)
end Go.Proofs.Ytkoojoogddndnaa.LWalks
namespace Go.Proofs.Ytkoojoogddndnaa
theorem anywhereWalks_holds : Rows.AnywhereWalksSaid := LWalks.holds
end Go.Proofs.Ytkoojoogddndnaa
