/-
  edits.Diff and that of the reference ref53: walks.
-/
import Derived.Test.YtmiebgejmiadlaaProg
import Derived.Test.YtmiebgejmiadlaaBase
import Derived.Test.YtmiebgejmiadlaaRef1
import Derived.Test.YtmiebgejmiadlaaEd1
import Derived.Test.YtmiebgejmiadlaaEd2
import Derived.WalkKit
import Derived.Deep.RegionHeld3
import Derived.Outline
import Derived.Deep.DeepCutAuto
import Derived.Deep.QuietTactic
import Derived.BigQuiet
import Derived.IntWalk
import Derived.Test.YtmiebgejmiadlaaLcp
namespace Go.Proofs.Ytmiebgejmiadlaa
open Go.RowKit Go.UtYtmiebgejmiadlaa
attribute [local go_sem high] cut_l cut_lh cut_lhm cutA_zero
attribute [local go_sem 500] cut_any
set_option maxHeartbeats 4000000 in
theorem diff_any (A F : Option Addr) (c fc B : Nat) (a b : List Int) (w : World) (hA : Row w B A (ints a)) (hF : Row w B F (ints b)) (hB : B ≤ w.heap.size) (la : a.length ≤ 60000) (lb : b.length ≤ 60000) (lbc : b.length ≤ fc)
    (i d : Nat) (r : List Int) (hi : lcp a b = i) (hd : a.length - dEnd a b - lcp a b = d) (hr : dIns a b = r) :
    Calls Try.prog 18 #[.slice A a.length c, .slice F b.length fc] w (RetEdit w i d r) := by
  have HA := Lib.hid hA
  have HF := Lib.hid hF
  have HI := Lib.hid hi
  have HD := Lib.hid hd
  have HR := Lib.hid hr
  clear hA hF hi hd hr
  go_enter Try.func18, Try.ntmps18
  go_wp2_with fail
  go_loopw [5] (fun x wr => ∃ k n : Nat, k ≤ a.length ∧ k ≤ b.length ∧ x = .int .i64 k ∧ Hid (k + lcp (a.drop k) (b.drop k) = lcp a b) ∧ Hid (wr = (w.alloc (.cells #[.int .i64 0, .int .i64 0, .slice none 0 0] 24)).drewN n)) (fun x _ => a.length - (intOf x).toNat)
  case atStart => exact ⟨0, 0, by omega, by omega, rfl, by show _ = _; simp, rfl⟩
  case round =>
    obtain ⟨k, n, hka, hkb, rfl, HK, HW⟩ := hrel
    go_upto_region 2 with fail
    go_cut [28] (fun s wx => s = .bool (eqAt a b k) ∧ Hid (∃ m, wx = (w.alloc (.cells #[.int .i64 0, .int .i64 0, .slice none 0 0] 24)).drewN m))
    case first =>
      have hw := HW.out
      subst hw
      by_cases h1 : k < a.length
      · by_cases h2 : k < b.length
        · obtain ⟨g, o, x, rfl, hg, hx, hcx⟩ := HA.out.at_int h1
          obtain ⟨g', o', y, rfl, hg', hy, hcy⟩ := HF.out.at_int h2
          have e1 : (g : Nat) < w.heap.size := by omega
          have e2 : (g' : Nat) < w.heap.size := by omega
          have HE := Lib.hid (eqAt_yes hx.out hy.out)
          clear hx hy
          go_quiet (fail)
          go_wp2
          go_meet
          exact ⟨by rw [HE.out], _, rfl⟩
        · have hd : decide (k < b.length) = false := by simpa using h2
          have HE := Lib.hid (eqAt_short (a := a) (b := b) (k := k) (by omega))
          go_quiet (fail)
          go_wp2
          go_meet
          exact ⟨by rw [HE.out], _, rfl⟩
      · have hd : decide (k < a.length) = false := by simpa using h1
        have HE := Lib.hid (eqAt_short (a := a) (b := b) (k := k) (by omega))
        go_quiet (fail)
        go_wp2
        go_meet
        exact ⟨by rw [HE.out], _, rfl⟩
    case rest =>
      clear HW
      obtain ⟨rfl, HM⟩ := hcut
      cases he : eqAt a b k with
      | true =>
        obtain ⟨h1, h2⟩ := eqAt_lt he
        have HK2 := Lib.hid (lcp_step he HK.out)
        obtain ⟨m, rfl⟩ := HM.out
        clear HK HM
        go_wp2_with fail
        go_roundw
        case rel => exact ⟨k + 1, m, by omega, by omega, by go_num, HK2.out, rfl⟩
        case measure => simp [intOf]; omega
      | false =>
        have hk : k = i := (lcp_stop he HK.out).trans HI.out
        subst hk
        obtain ⟨m, rfl⟩ := HM.out
        clear HK HM
        go_wp2_with fail
        have he' := Lib.hid he
        clear he
        go_loopw [6, 7] (fun x y wr => ∃ p q e n : Nat, p + e = a.length ∧ q + e = b.length ∧ k ≤ p ∧ k ≤ q ∧ x = .int .i64 p ∧ y = .int .i64 q ∧ Hid (e + lcp ((a.drop k).reverse.drop e) ((b.drop k).reverse.drop e) = dEnd a b) ∧ Hid (wr = (w.alloc (.cells #[.int .i64 0, .int .i64 0, .slice none 0 0] 24)).drewN n)) (fun x _ _ => (intOf x).toNat)
        case atStart => exact ⟨a.length, b.length, 0, m, by omega, by omega, by omega, by omega, rfl, rfl, (by show _ = _; simp [dEnd, HI.out]), rfl⟩
        case round =>
          obtain ⟨p, q, e, n', hp, hq, hkp, hkq, rfl, rfl, HK, HW⟩ := hrel
          have Hp := Lib.hid hp
          have Hq := Lib.hid hq
          have hp1 : p ≤ 60000 := by omega
          have hq1 : q ≤ 60000 := by omega
          clear hp hq
          go_upto_region 5 with fail
          go_cut [55] (fun s wx => s = .bool (eqAt (a.drop k).reverse (b.drop k).reverse e) ∧ Hid (∃ m, wx = (w.alloc (.cells #[.int .i64 0, .int .i64 0, .slice none 0 0] 24)).drewN m))
          case first =>
            have hw := HW.out
            subst hw
            by_cases h1 : k < p
            · by_cases h2 : k < q
              · obtain ⟨p', rfl⟩ : ∃ p', p = p' + 1 := ⟨p - 1, by omega⟩
                obtain ⟨q', rfl⟩ : ∃ q', q = q' + 1 := ⟨q - 1, by omega⟩
                obtain ⟨g, o, x, rfl, hg, hx, hcx⟩ := HA.out.at_int (k := p') (by have := Hp.out; omega)
                obtain ⟨g', o', y, rfl, hg', hy, hcy⟩ := HF.out.at_int (k := q') (by have := Hq.out; omega)
                have e1 : (g : Nat) < w.heap.size := by omega
                have e2 : (g' : Nat) < w.heap.size := by omega
                have p1 : (p' : Int) < (a.length : Int) := by have := Hp.out; omega
                have q1 : (q' : Int) < (b.length : Int) := by have := Hq.out; omega
                have HE := Lib.hid (eqAt_yes (rev_at (n := k) Hp.out (by omega) hx.out) (rev_at (n := k) Hq.out (by omega) hy.out))
                have k1 : IntKind.i64.wrap ((p' : Int) + 1 - 1) = (p' : Int) := by rw [IntWalk.i64_in _ (by omega)]; omega
                have k2 : IntKind.i64.wrap ((q' : Int) + 1 - 1) = (q' : Int) := by rw [IntWalk.i64_in _ (by omega)]; omega
                have z1 : (k : Int) < (p' : Int) + 1 := by omega
                have z2 : (k : Int) ≤ (p' : Int) := by omega
                have z3 : k ≤ p' := by omega
                have z4 : (k : Int) < (q' : Int) + 1 := by omega
                have z5 : (k : Int) ≤ (q' : Int) := by omega
                have z6 : k ≤ q' := by omega
                clear hx hy
                go_quiet (fail)
                go_wp2
                go_meet
                exact ⟨by rw [HE.out], _, rfl⟩
              · have hd : decide (k < q) = false := by simpa using h2
                have HE := Lib.hid (eqAt_short (a := (a.drop k).reverse) (b := (b.drop k).reverse) (k := e) (by have := Hq.out; simp; omega))
                go_quiet (fail)
                go_wp2
                go_meet
                exact ⟨by rw [HE.out], _, rfl⟩
            · have hd : decide (k < p) = false := by simpa using h1
              have HE := Lib.hid (eqAt_short (a := (a.drop k).reverse) (b := (b.drop k).reverse) (k := e) (by have := Hp.out; simp; omega))
              go_quiet (fail)
              go_wp2
              go_meet
              exact ⟨by rw [HE.out], _, rfl⟩
          case rest =>
            clear HW
            obtain ⟨rfl, HM⟩ := hcut
            cases he : eqAt (a.drop k).reverse (b.drop k).reverse e with
            | true =>
              obtain ⟨h1, h2⟩ := eqAt_lt he
              have HK2 := Lib.hid (lcp_step he HK.out)
              have h3 : k < p := by have := Hp.out; simp at h1; omega
              have h4 : k < q := by have := Hq.out; simp at h2; omega
              obtain ⟨p', rfl⟩ : ∃ p', p = p' + 1 := ⟨p - 1, by omega⟩
              obtain ⟨q', rfl⟩ : ∃ q', q = q' + 1 := ⟨q - 1, by omega⟩
              obtain ⟨m, rfl⟩ := HM.out
              clear HK HM h1 h2
              go_wp2_with fail
              go_roundw
              case rel => exact ⟨p', q', e + 1, m, by have := Hp.out; omega, by have := Hq.out; omega, by omega, by omega, by go_num, by go_num, HK2.out, rfl⟩
              case measure => simp [intOf]
            | false =>
              have HK2 := Lib.hid (lcp_stop he HK.out)
              obtain ⟨m, rfl⟩ := HM.out
              clear HK HM
              have hM : Hid (Row w B (cutA F q k 1) (ints r)) := by
                have := HF.out.mid (l := k) (m := q)
                rw [← HR.out]
                unfold dIns
                rw [HI.out, ← HK2.out, show b.length - e - k = q - k by have := Hq.out; omega]
                exact this
              have HL : Hid (r.length = q - k) := by
                show _ = _
                rw [← HR.out]
                unfold dIns
                rw [HI.out, ← HK2.out]
                have := Hq.out
                simp
                omega
              have HD2 : Hid ((p : Int) - k = d) := by
                show _ = _
                rw [← HD.out, HI.out, ← HK2.out]
                have := Hp.out
                omega
              have q1 : (q : Int) ≤ (fc : Int) := by have := Hq.out; omega
              have q2 : (k : Int) ≤ (q : Int) := by omega
              clear he
              have hk6 : q - k ≤ 65536 := by omega
              go_wp2_with fail
              refine (clone_n _ _ B r _ _ HL.out (hM.out.below (below_drewN ((Below.refl _ _).alloc hB _) m)) (by simp; omega) hk6).mono ?_
              rintro e2 w2 ⟨A', c', rfl, hl1, hl2, hr2, hnw, hb2⟩
              have hY := ((Blk.new w 24 #[.int .i64 0, .int .i64 0, .slice none 0 0]).drewN m).after hb2
              obtain ⟨hy0, hy1, hy2⟩ := hY.cells3
              obtain ⟨hf0, hf1, hf2⟩ := hY.free3
              have HY := Lib.hid hY
              have HN := Lib.hid hnw
              have HR2 := Lib.hid hr2
              have HL2 := Lib.hid hl1
              have HB2 := Lib.hid hb2
              clear hr2 hl1 hb2 hnw hY
              go_wp2_with fail
              have hz : w.heap.size < ((w.alloc (.cells #[.int .i64 0, .int .i64 0, .slice none 0 0] 24)).drewN m).heap.size := by simp
              refine bodyPost_ret (v := .agg #[.int .i64 k, .int .i64 ((p : Int) - k), .slice A' r.length c']) ?_ rfl ?_
              · have HY3 := ((HY.out.set_ 0 (.int .i64 k)).set_ 1 (.int .i64 ((p : Int) - k))).set_ 2 (.slice A' r.length c')
                obtain ⟨g0, g1, g2⟩ := HY3.cells3
                simp [results, Try.results18, go_sem, g0, g1, g2]
              · refine ⟨A', c', by rw [HD2.out], HL2.out, hl2, ?_, HN.out.mono (by simp), ?_⟩
                · exact (HR2.out.far3 HN.out hz _ _ _).lt
                · exact below_set3 ((below_drewN ((Below.refl _ _).alloc (Nat.le_refl _) _) m).trans (HB2.out.mono (by simp))) (Nat.le_refl _) _ _ _
end Go.Proofs.Ytmiebgejmiadlaa
