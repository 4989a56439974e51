/-
  law53.alive: a walk.
-/
import Derived.Test.YtmiebgejmiadlaaProg
import Derived.Test.YtmiebgejmiadlaaBase
import Derived.Test.YtmiebgejmiadlaaRef1
import Derived.Test.YtmiebgejmiadlaaEd1
import Derived.Test.YtmiebgejmiadlaaEd2
import Derived.Test.YtmiebgejmiadlaaEd3
import Derived.Test.YtmiebgejmiadlaaEd4
import Derived.Test.YtmiebgejmiadlaaEd5
import Derived.Test.YtmiebgejmiadlaaEd6
import Derived.WalkKit
import Derived.Deep.RegionHeld3
import Derived.Outline
namespace Go.Proofs.Ytmiebgejmiadlaa
open Go.RowKit Go.UtYtmiebgejmiadlaa
attribute [local go_sem high] cut_l cut_lh cut_lhm cutA_zero
attribute [local go_sem 500] cut_any
theorem Blk.at_new {w : World} {g : Nat} {t : TypeId} {cs : Array Value} (h : g = w.heap.size) : Blk (w.alloc (.cells cs t)) g t cs := by
  subst h
  exact Blk.new w t cs
theorem check122 : checkB 1 2 2 = 1 := by
  have h : wrap64 (2 - 1) = 1 := IntWalk.wrap64_in _ ⟨by omega, by omega⟩
  unfold checkB
  rw [h]
  decide
theorem merge_z (x y u v : Int) (a y' k d : Nat) (hx : x = a) (hy : y = y') (hu : u = (a : Int) + k) (hv : v = d) (A F : Option Addr) (c fc B : Nat) (ins fins r : List Int) (w : World) (hA : Row w B A (ints ins)) (hF : Row w B F (ints fins)) (hB : B ≤ w.heap.size)
    (hc : ins.length ≤ c) (ha : a + k < 9223372036854775808) (h : k + d ≤ ins.length) (hl : ins.length + fins.length ≤ 60000) (hr : ins.take k ++ fins ++ ins.drop (k + d) = r) :
    Calls Try.prog 20 #[.agg #[.int .i64 x, .int .i64 y, .slice A ins.length c], .agg #[.int .i64 u, .int .i64 v, .slice F fins.length fc]] w (RetEdit2 w x y r (.bool true)) := by
  subst hx hy hu hv
  exact merge_ok a y' k d A F c fc B ins fins r w hA hF hB hc ha h hl hr
set_option maxHeartbeats 4000000 in
theorem alive_any (w : World) : Calls Try.prog 15 #[] w fun e w' => e = .returned (.bool true) ∧ Below w.heap.size w w' := by
  go_enter Try.func15, Try.ntmps15
  go_wp2_with fail
  have i0 := (Blk.new w 3 #[.int .i64 97, .int .i64 98, .int .i64 99]).alloc (.cells #[.int .i64 97, .int .i64 120, .int .i64 99] 3)
  have i1 := Blk.new (w.alloc (.cells #[.int .i64 97, .int .i64 98, .int .i64 99] 3)) 3 #[.int .i64 97, .int .i64 120, .int .i64 99]
  rw [show (w.alloc (.cells #[.int .i64 97, .int .i64 98, .int .i64 99] 3)).heap.size = w.heap.size + 1 by simp] at i1
  refine (diff_any (some ⟨w.heap.size, 0, none⟩) (some ⟨w.heap.size + 1, 0, none⟩) 3 3 _ [97, 98, 99] [97, 120, 99] _ (i0.row rfl) (i1.row rfl) (Nat.le_refl _) (by simp) (by simp) (by simp) 1 1 [120] (by decide) (by decide) (by decide)).mono ?_
  rintro e w1 ⟨A1, c1, rfl, hl1, hc1, hr1, hn1, hb1⟩
  have HR1 := Lib.hid hr1
  have HB1 := Lib.hid (((((Below.refl w.heap.size w).alloc (Nat.le_refl _) _).alloc (by simp) _).trans (hb1.mono (by simp; omega))))
  clear hr1 hn1 hb1 i0 i1 hl1 hc1
  go_wp2_with fail
  have j0 : Blk (((((w1.alloc (.cells #[.int .i64 1, .int .i64 1, .slice A1 1 c1] 24)).alloc (.cells #[.int .i64 120] 3)).alloc (.cells #[.int .i64 1, .int .i64 2, .slice (some ⟨w1.heap.size + 1, 0, none⟩) 1 1] 24)).alloc (.cells #[.int .i64 120, .int .i64 121, .int .i64 122] 3)).alloc (.cells #[.int .i64 118] 3))
      (w1.heap.size + 1 + 1 + 1) 3 #[.int .i64 120, .int .i64 121, .int .i64 122] := (Blk.at_new (by simp)).alloc _
  have j1 : Blk (((((w1.alloc (.cells #[.int .i64 1, .int .i64 1, .slice A1 1 c1] 24)).alloc (.cells #[.int .i64 120] 3)).alloc (.cells #[.int .i64 1, .int .i64 2, .slice (some ⟨w1.heap.size + 1, 0, none⟩) 1 1] 24)).alloc (.cells #[.int .i64 120, .int .i64 121, .int .i64 122] 3)).alloc (.cells #[.int .i64 118] 3))
      (w1.heap.size + 1 + 1 + 1 + 1) 3 #[.int .i64 118] := Blk.at_new (by simp)
  have j2 : Blk (((((w1.alloc (.cells #[.int .i64 1, .int .i64 1, .slice A1 1 c1] 24)).alloc (.cells #[.int .i64 120] 3)).alloc (.cells #[.int .i64 1, .int .i64 2, .slice (some ⟨w1.heap.size + 1, 0, none⟩) 1 1] 24)).alloc (.cells #[.int .i64 120, .int .i64 121, .int .i64 122] 3)).alloc (.cells #[.int .i64 118] 3))
      w1.heap.size 24 #[.int .i64 1, .int .i64 1, .slice A1 1 c1] := ((((Blk.new _ _ _).alloc _).alloc _).alloc _).alloc _
  have j3 : Blk (((((w1.alloc (.cells #[.int .i64 1, .int .i64 1, .slice A1 1 c1] 24)).alloc (.cells #[.int .i64 120] 3)).alloc (.cells #[.int .i64 1, .int .i64 2, .slice (some ⟨w1.heap.size + 1, 0, none⟩) 1 1] 24)).alloc (.cells #[.int .i64 120, .int .i64 121, .int .i64 122] 3)).alloc (.cells #[.int .i64 118] 3))
      (w1.heap.size + 1 + 1) 24 #[.int .i64 1, .int .i64 2, .slice (some ⟨w1.heap.size + 1, 0, none⟩) 1 1] := ((Blk.at_new (by simp)).alloc _).alloc _
  refine (merge_z 1 0 2 2 1 0 1 2 rfl rfl rfl rfl (some ⟨w1.heap.size + 1 + 1 + 1, 0, none⟩) (some ⟨w1.heap.size + 1 + 1 + 1 + 1, 0, none⟩) 3 1 _ [120, 121, 122] [118] [120, 118] _ (j0.row rfl) (j1.row rfl) (Nat.le_refl _) (by simp) (by omega) (by simp) (by simp) (by decide)).mono ?_
  rintro e w2 ⟨A2, c2, rfl, hl2, hc2, hr2, hn2, hb2⟩
  have k2 := Lib.hid (j2.after hb2)
  have k3 := Lib.hid (j3.after hb2)
  have hbc : Below w1.heap.size w1 w2 := (((((((Below.refl w1.heap.size w1).alloc (Nat.le_refl _) _).alloc (by simp) _).alloc (by simp; omega) _).alloc (by simp; omega) _).alloc (by simp; omega) _)).trans (hb2.mono (by simp; omega))
  have HR1' := Lib.hid (HR1.out.below hbc)
  have HR2 := Lib.hid hr2
  have HB2 := Lib.hid (below_then HB1.out hbc (Nat.le_refl _))
  clear hr2 hn2 hb2 hbc j0 j1 j2 j3 hl2 hc2 HR1 HB1
  obtain ⟨f0, f1, f2⟩ := k2.out.cells3
  obtain ⟨f3, f4, f5⟩ := k3.out.cells3
  have q1 := k3.out.lt
  have q0 := k2.out.lt
  go_wp2_with fail
  have j0 : Blk ((w2.alloc (.cells #[.int .i64 1, .int .i64 0, .slice A2 2 c2] 24)).alloc (.cells #[.int .i64 120] 3)) (w2.heap.size + 1) 3 #[.int .i64 120] := Blk.at_new (by simp)
  have j1 : Blk ((w2.alloc (.cells #[.int .i64 1, .int .i64 0, .slice A2 2 c2] 24)).alloc (.cells #[.int .i64 120] 3)) w2.heap.size 24 #[.int .i64 1, .int .i64 0, .slice A2 2 c2] := (Blk.new _ _ _).alloc _
  have hbx : Below w2.heap.size w2 ((w2.alloc (.cells #[.int .i64 1, .int .i64 0, .slice A2 2 c2] 24)).alloc (.cells #[.int .i64 120] 3)) := ((Below.refl _ _).alloc (Nat.le_refl _) _).alloc (by simp) _
  refine (same_eq 1 1 A1 (some ⟨w2.heap.size + 1, 0, none⟩) c1 1 _ [120] [120] _ ((HR1'.out.lt.below hbx).lt) (j0.row rfl) (Nat.le_refl _) (by simp [maxLen]) (by simp [maxLen]) true (by decide)).mono ?_
  rintro e w3 ⟨rfl, hb3⟩
  have hbc : Below w2.heap.size w2 w3 := hbx.trans (hb3.mono hbx.size)
  have k4 := Lib.hid (j1.after hb3)
  have k5 := Lib.hid (k3.out.after hbc)
  have HR3 := Lib.hid (HR2.out.below hbc).lt
  have HB3 := Lib.hid (below_then HB2.out hbc (Nat.le_refl _))
  clear hb3 hbc hbx j0 j1 k2 k3 f0 f1 f2 f3 f4 f5 q1 q0 HR1' HR2 HB2
  obtain ⟨f3, f4, f5⟩ := k5.out.cells3
  go_wp2_with fail
  refine (shift_any 1 2 2 _ 1 1 _ (by omega) (by omega) (by omega) (by omega) 1 (by decide)).mono ?_
  rintro e w4 ⟨rfl, hb4⟩
  have k4' := Lib.hid (k4.out.after hb4)
  have k5' := Lib.hid (k5.out.after hb4)
  have HR4 := Lib.hid (HR3.out.below hb4).lt
  have HB4 := Lib.hid (below_then HB3.out hb4 (Nat.le_refl _))
  clear hb4 k4 k5 f3 f4 f5 HR3 HB3
  obtain ⟨f3, f4, f5⟩ := k5'.out.cells3
  go_wp2_with fail
  refine (shift_any 1 2 4 _ 1 1 _ (by omega) (by omega) (by omega) (by omega) 3 (by decide)).mono ?_
  rintro e w5 ⟨rfl, hb5⟩
  have k4 := Lib.hid (k4'.out.after hb5)
  have k5 := Lib.hid (k5'.out.after hb5)
  have HR5 := Lib.hid (HR4.out.below hb5).lt
  have HB5 := Lib.hid (below_then HB4.out hb5 (Nat.le_refl _))
  clear hb5 k4' k5' f3 f4 f5 HR4 HB4
  obtain ⟨f3, f4, f5⟩ := k4.out.cells3
  have q1 := k4.out.lt
  go_wp2_with fail
  have hbx : Below w5.heap.size w5 (w5.alloc (.cells #[.int .i64 120, .int .i64 118] 3)) := (Below.refl _ _).alloc (Nat.le_refl _) _
  refine (same_eq 1 0 A2 (some ⟨w5.heap.size, 0, none⟩) c2 2 _ [120, 118] [120, 118] _ ((HR5.out.below hbx).lt) ((Blk.new _ _ _).row rfl) (Nat.le_refl _) (by simp [maxLen]) (by simp [maxLen]) true (by decide)).mono ?_
  rintro e w6 ⟨rfl, hb6⟩
  have hbc : Below w5.heap.size w5 w6 := hbx.trans (hb6.mono hbx.size)
  have k5' := Lib.hid (k5.out.after hbc)
  have HB6 := Lib.hid (below_then HB5.out hbc (Nat.le_refl _))
  clear hb6 hbx hbc k4 k5 f3 f4 f5 HR5 HB5 q1
  obtain ⟨f3, f4, f5⟩ := k5'.out.cells3
  go_wp2_with fail
  refine (check_any 1 2 2 _ 1 1 _ 1 check122).mono ?_
  rintro e w7 ⟨rfl, hb7⟩
  have HB7 := Lib.hid (below_then HB6.out hb7 (Nat.le_refl _))
  clear hb7 k5' f3 f4 f5 HB6
  go_wp2_with fail
  go_ret
  exact ⟨rfl, HB7.out⟩
end Go.Proofs.Ytmiebgejmiadlaa
