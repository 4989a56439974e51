/-
  edits.Invert and that of the reference ref53: walks.
-/
import Derived.Test.YtmiebgejmiadlaaProg
import Derived.Test.YtmiebgejmiadlaaBase
import Derived.Test.YtmiebgejmiadlaaRef1
import Derived.Test.YtmiebgejmiadlaaEd1
import Derived.Test.YtmiebgejmiadlaaEd2
import Derived.WalkKit
import Derived.Deep.RegionHeld3
import Derived.Outline
namespace Go.Proofs.Ytmiebgejmiadlaa
open Go.RowKit Go.UtYtmiebgejmiadlaa
attribute [local go_sem high] cut_l cut_lh cut_lhm cutA_zero
attribute [local go_sem 500] cut_any
theorem box33 {w w1 : World} {a b c a' b' c' : Value} {t t' : TypeId} (hb : Below ((w.alloc (.cells #[a, b, c] t)).alloc (.cells #[a', b', c'] t')).heap.size ((w.alloc (.cells #[a, b, c] t)).alloc (.cells #[a', b', c'] t')) w1) :
    Blk w1 w.heap.size t #[a, b, c] ∧ Blk w1 (w.heap.size + 1) t' #[a', b', c'] ∧ Below w.heap.size w w1 := by
  have h1 := ((Blk.new w t #[a, b, c]).alloc (.cells #[a', b', c'] t')).after hb
  have h2 := (Blk.new (w.alloc (.cells #[a, b, c] t)) t' #[a', b', c']).after hb
  rw [show (w.alloc (.cells #[a, b, c] t)).heap.size = w.heap.size + 1 by simp] at h2
  exact ⟨h1, h2, (((Below.refl _ _).alloc (Nat.le_refl _) _).alloc (by simp) _).trans (hb.mono (by simp; omega))⟩
set_option maxHeartbeats 2000000 in
theorem invert_ok (i d : Nat) (A T : Option Addr) (n c tc B : Nat) (text r : List Int) (w : World) (hT : Row w B T (ints text)) (hB : B ≤ w.heap.size)
    (htc : text.length ≤ tc) (h : i + d ≤ text.length) (hl : text.length ≤ 60000) (hr : (text.drop i).take d = r) :
    Calls Try.prog 26 #[.agg #[.int .i64 i, .int .i64 d, .slice A n c], .slice T text.length tc] w (RetEdit2 w i n r (.int .i64 0)) := by
  have HRR := Lib.hid hr
  have HT := Lib.hid hT
  have HK := Lib.hid (checkB_ok h (by omega))
  have HLr : Hid (r.length = d) := by show _ = _; rw [← hr]; simp; omega
  have HM : Hid (∀ W, Below B w W → Row W B (cutA T (i + d) i 1) (ints r)) := by
    intro W hW
    rw [← hr]
    have := hT.mid (l := i) (m := i + d)
    rw [Nat.add_sub_cancel_left] at this
    exact this.below hW
  clear hT hr
  have k0 : (0 : Int) ≤ (i : Int) := by omega
  have k1 : (i : Int) ≤ (tc : Int) := by omega
  have k2 : (0 : Int) ≤ (i : Int) + (d : Int) := by omega
  have k3 : (i : Int) + (d : Int) ≤ (text.length : Int) := by omega
  have k3' : (i : Int) + (d : Int) ≤ (tc : Int) := by omega
  have k4 : IntKind.i64.wrap ((i : Int) + (d : Int)) = (i : Int) + (d : Int) := IntWalk.i64_in _ (by omega)
  have k5 : ((i : Int) + (d : Int)).toNat = i + d := by omega
  have k6 : (i : Int) ≤ (i : Int) + (d : Int) := by omega
  have k7 : i + d - i = d := by omega
  go_enter Try.func26, Try.ntmps26
  go_wp2_with fail
  refine (check_any _ _ _ _ _ _ _ _ HK.out).mono ?_
  rintro e w1 ⟨rfl, hb1⟩
  obtain ⟨hX, hY, hbw1⟩ := box33 hb1
  obtain ⟨hc0, hc1, hc2⟩ := hX.cells3
  have HX := Lib.hid hX
  have HY := Lib.hid hY
  have HB1 := Lib.hid hbw1
  have hz1 := hY.lt
  clear hb1 hbw1 hX hY
  go_wp2_with fail
  go_region_held3 (fun w' => w'.cell? ⟨w.heap.size, 0, none⟩ = some (.int .i64 i) ∧ w'.cell? ⟨w.heap.size, 1, none⟩ = some (.int .i64 d) ∧ w'.cell? ⟨w.heap.size, 2, none⟩ = some (.slice A n c))
    (first | go_keep | (go_split_ands; refine ⟨?_, ?_, ?_⟩ <;> (rw [Below.cell (by assumption) (by simp; omega)]; assumption)))
    (first | (go_at_call 28
              refine (clone_n _ _ B r _ _ HLr.out (HM.out _ (HB1.out.mono hB).drew) (Nat.le_trans hB HB1.out.size) (by omega)).mono ?_
              rintro e w2 ⟨A', c', rfl, hl1, hl2, hr, hnw, hb2⟩
              obtain ⟨hy0, hy1, hy2⟩ := (HY.out.after (undrew hb2)).cells3
              obtain ⟨hf0, hf1, hf2⟩ := (HY.out.after (undrew hb2)).free3))
  have HN := Lib.hid hnw
  have HR := Lib.hid hr
  have HL := Lib.hid hl1
  have HB2 := Lib.hid hb2
  have HY2 := Lib.hid (HY.out.after (undrew hb2))
  clear hr hl1 hb2 hnw
  go_wp2
  have hs := Nat.lt_of_lt_of_le (Nat.lt_of_succ_lt hz1) HB2.out.size
  refine bodyPost_ret (v := .tuple #[.agg #[.int .i64 i, .int .i64 n, .slice A' r.length c'], .int .i64 0]) ?_ rfl ?_
  · have HY3 := ((HY2.out.set_ 0 (.int .i64 i)).set_ 1 (.int .i64 n)).set_ 2 (.slice A' r.length c')
    obtain ⟨g0, g1, g2⟩ := HY3.cells3
    simp [results, Try.results26, go_sem, g0, g1, g2]
  · refine ⟨A', c', rfl, HL.out, hl2, ?_, HN.out.mono HB1.out.size, ?_⟩
    · exact (HR.out.far3 HN.out hz1 _ _ _).lt
    · exact below_set3 (below_then HB1.out.drew HB2.out (Nat.le_refl _)) (Nat.le_succ _) _ _ _
set_option maxHeartbeats 2000000 in
theorem invert2_ok (i d : Nat) (A T : Option Addr) (n c tc B : Nat) (text r : List Int) (w : World) (hT : Row w B T (ints text)) (hB : B ≤ w.heap.size)
    (htc : text.length ≤ tc) (h : i + d ≤ text.length) (hl : text.length ≤ 60000) (hr : (text.drop i).take d = r) :
    Calls Try.prog 27 #[.agg #[.int .i64 i, .int .i64 d, .slice A n c], .slice T text.length tc] w (RetEdit2 w i n r (.int .i64 0)) := by
  have HRR := Lib.hid hr
  have HT := Lib.hid hT
  have HK := Lib.hid (checkB_ok h (by omega))
  have HLr : Hid (r.length = d) := by show _ = _; rw [← hr]; simp; omega
  have HM : Hid (∀ W, Below B w W → Row W B (cutA T tc i 1) (ints r)) := by
    intro W hW
    rw [← hr]
    have := hT.cut (l := i) (m := tc) (s := 1) (j := d) (.inl (by rw [ints_len]; omega))
    rw [Nat.mul_one] at this
    rw [ints_take, ints_drop]
    exact this.below hW
  clear hT hr
  have k0 : (0 : Int) ≤ (i : Int) := by omega
  have k1 : (i : Int) ≤ (tc : Int) := by omega
  have k2 : (0 : Int) ≤ (i : Int) + (d : Int) := by omega
  have k3 : (i : Int) + (d : Int) ≤ (text.length : Int) := by omega
  have k3' : (i : Int) + (d : Int) ≤ (tc : Int) := by omega
  have k4 : IntKind.i64.wrap ((i : Int) + (d : Int)) = (i : Int) + (d : Int) := IntWalk.i64_in _ (by omega)
  have k5 : ((i : Int) + (d : Int)).toNat = i + d := by omega
  have k6 : (i : Int) ≤ (i : Int) + (d : Int) := by omega
  have k7 : i + d - i = d := by omega
  go_enter Try.func27, Try.ntmps27
  go_wp2_with fail
  refine (check2_any _ _ _ _ _ _ _ _ HK.out).mono ?_
  rintro e w1 ⟨rfl, hb1⟩
  obtain ⟨hX, hY, hbw1⟩ := box33 hb1
  obtain ⟨hc0, hc1, hc2⟩ := hX.cells3
  have HX := Lib.hid hX
  have HY := Lib.hid hY
  have HB1 := Lib.hid hbw1
  have hz1 := hY.lt
  clear hb1 hbw1 hX hY
  go_wp2_with fail
  go_region_held3 (fun w' => w'.cell? ⟨w.heap.size, 0, none⟩ = some (.int .i64 i) ∧ w'.cell? ⟨w.heap.size, 1, none⟩ = some (.int .i64 d) ∧ w'.cell? ⟨w.heap.size, 2, none⟩ = some (.slice A n c))
    (first | go_keep | (go_split_ands; refine ⟨?_, ?_, ?_⟩ <;> (rw [Below.cell (by assumption) (by simp; omega)]; assumption)))
    (first | (go_at_call 29
              refine (join_n _ _ _ _ _ _ B [] r [] r _ _ _ _ rfl HLr.out rfl (by simp) Row.nil (HM.out _ (HB1.out.mono hB).drew) Row.nil (Nat.le_trans hB HB1.out.size) (by simp only [List.length_nil]; omega)).mono ?_
              rintro e w2 ⟨A', c', rfl, hl1, hl2, hr, hnw, hb2⟩
              obtain ⟨hy0, hy1, hy2⟩ := (HY.out.after (undrew hb2)).cells3
              obtain ⟨hf0, hf1, hf2⟩ := (HY.out.after (undrew hb2)).free3))
  have HN := Lib.hid hnw
  have HR := Lib.hid hr
  have HL := Lib.hid hl1
  have HB2 := Lib.hid hb2
  have HY2 := Lib.hid (HY.out.after (undrew hb2))
  clear hr hl1 hb2 hnw
  go_wp2
  have hs := Nat.lt_of_lt_of_le (Nat.lt_of_succ_lt hz1) HB2.out.size
  refine bodyPost_ret (v := .tuple #[.agg #[.int .i64 i, .int .i64 n, .slice A' r.length c'], .int .i64 0]) ?_ rfl ?_
  · have HY3 := ((HY2.out.set_ 0 (.int .i64 i)).set_ 1 (.int .i64 n)).set_ 2 (.slice A' r.length c')
    obtain ⟨g0, g1, g2⟩ := HY3.cells3
    simp [results, Try.results27, go_sem, g0, g1, g2]
  · refine ⟨A', c', rfl, HL.out, hl2, ?_, HN.out.mono HB1.out.size, ?_⟩
    · exact (HR.out.far3 HN.out hz1 _ _ _).lt
    · exact below_set3 (below_then HB1.out.drew HB2.out (Nat.le_refl _)) (Nat.le_succ _) _ _ _
theorem invert_no (x y : Int) (A T : Option Addr) (n c tc k : Nat) (w : World) (h : checkB x y k = 1) :
    Calls Try.prog 26 #[.agg #[.int .i64 x, .int .i64 y, .slice A n c], .slice T k tc] w (RetEdit2 w 0 0 [] (.int .i64 1)) := by
  have HK := Lib.hid h
  clear h
  go_enter Try.func26, Try.ntmps26
  go_wp2_with fail
  refine (check_any _ _ _ _ _ _ _ _ HK.out).mono ?_
  rintro e w1 ⟨rfl, hb1⟩
  obtain ⟨hX, hY, hbw1⟩ := box33 hb1
  obtain ⟨hy0, hy1, hy2⟩ := hY.cells3
  obtain ⟨hf0, hf1, hf2⟩ := hY.free3
  have HY := Lib.hid hY
  have HB1 := Lib.hid hbw1
  clear hb1 hbw1 hX hY
  go_wp2_with fail
  refine bodyPost_ret (v := .tuple #[.agg #[.int .i64 0, .int .i64 0, .slice none 0 0], .int .i64 1]) ?_ rfl ?_
  · have HY3 := ((HY.out.set_ 0 (.int .i64 0)).set_ 1 (.int .i64 0)).set_ 2 (.slice none 0 0)
    obtain ⟨g0, g1, g2⟩ := HY3.cells3
    simp [results, Try.results26, go_sem, g0, g1, g2]
  · exact ⟨none, 0, rfl, Nat.le_refl _, by simp [maxLen], Row.nil, NewAt.none_, ((HB1.out.setCell (Nat.le_succ _) _).setCell (Nat.le_succ _) _).setCell (Nat.le_succ _) _⟩
theorem invert2_no (x y : Int) (A T : Option Addr) (n c tc k : Nat) (w : World) (h : checkB x y k = 1) :
    Calls Try.prog 27 #[.agg #[.int .i64 x, .int .i64 y, .slice A n c], .slice T k tc] w (RetEdit2 w 0 0 [] (.int .i64 1)) := by
  have HK := Lib.hid h
  clear h
  go_enter Try.func27, Try.ntmps27
  go_wp2_with fail
  refine (check2_any _ _ _ _ _ _ _ _ HK.out).mono ?_
  rintro e w1 ⟨rfl, hb1⟩
  obtain ⟨hX, hY, hbw1⟩ := box33 hb1
  obtain ⟨hy0, hy1, hy2⟩ := hY.cells3
  obtain ⟨hf0, hf1, hf2⟩ := hY.free3
  have HY := Lib.hid hY
  have HB1 := Lib.hid hbw1
  clear hb1 hbw1 hX hY
  go_wp2_with fail
  refine bodyPost_ret (v := .tuple #[.agg #[.int .i64 0, .int .i64 0, .slice none 0 0], .int .i64 1]) ?_ rfl ?_
  · have HY3 := ((HY.out.set_ 0 (.int .i64 0)).set_ 1 (.int .i64 0)).set_ 2 (.slice none 0 0)
    obtain ⟨g0, g1, g2⟩ := HY3.cells3
    simp [results, Try.results27, go_sem, g0, g1, g2]
  · exact ⟨none, 0, rfl, Nat.le_refl _, by simp [maxLen], Row.nil, NewAt.none_, ((HB1.out.setCell (Nat.le_succ _) _).setCell (Nat.le_succ _) _).setCell (Nat.le_succ _) _⟩
end Go.Proofs.Ytmiebgejmiadlaa
