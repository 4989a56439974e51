/-
  edits.Merge and that of the reference ref53: walks.
-/
import Derived.Test.YtmiebgejmiadlaaProg
import Derived.Test.YtmiebgejmiadlaaBase
import Derived.Test.YtmiebgejmiadlaaRef1
import Derived.Test.YtmiebgejmiadlaaEd1
import Derived.Test.YtmiebgejmiadlaaEd2
import Derived.Test.YtmiebgejmiadlaaEd3
import Derived.WalkKit
import Derived.Deep.RegionHeld3
import Derived.Outline
namespace Go.Proofs.Ytmiebgejmiadlaa
open Go.RowKit Go.UtYtmiebgejmiadlaa
attribute [local go_sem high] cut_l cut_lh cut_lhm cutA_zero
attribute [local go_sem 500] cut_any
theorem BW {w : World} {B : Nat} (o1 o2 o3 : Obj) (hB : B ≤ w.heap.size) : Below B w (((w.alloc o1).alloc o2).alloc o3).drew :=
  ((((Below.refl _ _).alloc hB _).alloc (by simp; omega) _).alloc (by simp; omega) _).drew
theorem box333 {w w1 : World} {a b c a' b' c' a'' b'' c'' : Value} {t t' t'' : TypeId} (hb : Below (((w.alloc (.cells #[a, b, c] t)).alloc (.cells #[a', b', c'] t')).alloc (.cells #[a'', b'', c''] t'')).heap.size (((w.alloc (.cells #[a, b, c] t)).alloc (.cells #[a', b', c'] t')).alloc (.cells #[a'', b'', c''] t'')) w1) :
    Blk w1 w.heap.size t #[a, b, c] ∧ Blk w1 (w.heap.size + 1) t' #[a', b', c'] ∧ Blk w1 (w.heap.size + 1 + 1) t'' #[a'', b'', c''] ∧ Below w.heap.size w w1 := by
  have h1 := (((Blk.new w t #[a, b, c]).alloc (.cells #[a', b', c'] t')).alloc (.cells #[a'', b'', c''] t'')).after hb
  have h2 := ((Blk.new (w.alloc (.cells #[a, b, c] t)) t' #[a', b', c']).alloc (.cells #[a'', b'', c''] t'')).after hb
  have h3 := (Blk.new ((w.alloc (.cells #[a, b, c] t)).alloc (.cells #[a', b', c'] t')) t'' #[a'', b'', c'']).after hb
  rw [show (w.alloc (.cells #[a, b, c] t)).heap.size = w.heap.size + 1 by simp] at h2
  rw [show ((w.alloc (.cells #[a, b, c] t)).alloc (.cells #[a', b', c'] t')).heap.size = w.heap.size + 1 + 1 by simp] at h3
  exact ⟨h1, h2, h3, ((((Below.refl _ _).alloc (Nat.le_refl _) _).alloc (by simp) _).alloc (by simp; omega) _).trans (hb.mono (by simp; omega))⟩
set_option maxHeartbeats 2000000 in
theorem merge_ok (a y k d : Nat) (A F : Option Addr) (c fc B : Nat) (ins fins r : List Int) (w : World) (hA : Row w B A (ints ins)) (hF : Row w B F (ints fins)) (hB : B ≤ w.heap.size)
    (hc : ins.length ≤ c) (ha : a + k < 9223372036854775808) (h : k + d ≤ ins.length) (hl : ins.length + fins.length ≤ 60000) (hr : ins.take k ++ fins ++ ins.drop (k + d) = r) :
    Calls Try.prog 20 #[.agg #[.int .i64 a, .int .i64 y, .slice A ins.length c], .agg #[.int .i64 ((a : Int) + k), .int .i64 d, .slice F fins.length fc]] w (RetEdit2 w a y r (.bool true)) := by
  have HRR := Lib.hid hr
  have HA := Lib.hid hA
  have HF := Lib.hid hF
  clear hA hF hr
  have k0 : (0 : Int) ≤ (k : Int) := by omega
  have k1 : (k : Int) ≤ (c : Int) := by omega
  have k2 : (0 : Int) ≤ (k : Int) + (d : Int) := by omega
  have k3 : (k : Int) + (d : Int) ≤ (ins.length : Int) := by omega
  have k4 : IntKind.i64.wrap ((k : Int) + (d : Int)) = (k : Int) + (d : Int) := IntWalk.i64_in _ (by omega)
  have k5 : ((k : Int) + (d : Int)).toNat = k + d := by omega
  have k6 : (a : Int) + (k : Int) - (a : Int) = (k : Int) := by omega
  go_enter Try.func20, Try.ntmps20
  go_wp2_with fail
  go_region_held3 (fun w' => w'.cell? ⟨w.heap.size, 0, none⟩ = some (.int .i64 a) ∧ w'.cell? ⟨w.heap.size, 1, none⟩ = some (.int .i64 y) ∧ w'.cell? ⟨w.heap.size, 2, none⟩ = some (.slice A ins.length c) ∧ w'.cell? ⟨w.heap.size + 1, 1, none⟩ = some (.int .i64 d) ∧ w'.cell? ⟨w.heap.size + 1, 2, none⟩ = some (.slice F fins.length fc))
    (first | exact ⟨hX.cell 0, hX.cell 1, hX.cell 2, hX'.cell 1, hX'.cell 2⟩ | exact ⟨(hX.far3 (by omega) _ _ _).cell 0, (hX.far3 (by omega) _ _ _).cell 1, (hX.far3 (by omega) _ _ _).cell 2, (hX'.far3 (by omega) _ _ _).cell 1, (hX'.far3 (by omega) _ _ _).cell 2⟩ | go_keep)
    (first | (go_at_call 30
              refine (joined_n _ _ _ _ _ _ B (ins.take k) fins (ins.drop (k + d)) r _ _ _ _ (by simp; omega) rfl (by simp) HRR.out (HA.out.init.below (BW _ _ _ hB)) (HF.out.below (BW _ _ _ hB)) ((HA.out.tail hc).below (BW _ _ _ hB)) (by simp; omega) (by omega)).mono ?_
              rintro e w2 ⟨A', c', rfl, hl1, hl2, hr, hnw, hb2⟩
              obtain ⟨hX, hX', hY, hbw⟩ := box333 (undrew hb2)
              obtain ⟨hy0, hy1, hy2⟩ := hY.cells3
              obtain ⟨hf0, hf1, hf2⟩ := hY.free3))
  have HN := Lib.hid hnw
  have HR := Lib.hid hr
  have HL := Lib.hid hl1
  have HB2 := Lib.hid hbw
  have HY2 := Lib.hid hY
  clear hr hl1 hb2 hbw hnw hX hX' hY
  go_wp2
  have hn : w.heap.size + 1 + 1 < (((w.alloc (.cells #[.int .i64 a, .int .i64 y, .slice A ins.length c] 24)).alloc (.cells #[.int .i64 ((a : Int) + k), .int .i64 d, .slice F fins.length fc] 24)).alloc (.cells #[.int .i64 0, .int .i64 0, .slice none 0 0] 24)).drew.heap.size := by simp
  refine bodyPost_ret (v := .tuple #[.agg #[.int .i64 a, .int .i64 y, .slice A' r.length c'], .bool true]) ?_ rfl ?_
  · have HY3 := ((HY2.out.set_ 0 (.int .i64 a)).set_ 1 (.int .i64 y)).set_ 2 (.slice A' r.length c')
    obtain ⟨g0, g1, g2⟩ := HY3.cells3
    simp [results, Try.results20, go_sem, g0, g1, g2]
  · refine ⟨A', c', rfl, HL.out, hl2, ?_, HN.out.mono (by simp; omega), ?_⟩
    · exact (HR.out.far3 HN.out hn _ _ _).lt
    · exact below_set3 HB2.out (by omega) _ _ _
set_option maxHeartbeats 2000000 in
theorem merge2_ok (a y k d : Nat) (A F : Option Addr) (c fc B : Nat) (ins fins r : List Int) (w : World) (hA : Row w B A (ints ins)) (hF : Row w B F (ints fins)) (hB : B ≤ w.heap.size)
    (hc : ins.length ≤ c) (ha : a + k < 9223372036854775808) (h : k + d ≤ ins.length) (hl : ins.length + fins.length ≤ 60000) (hr : ins.take k ++ fins ++ ins.drop (k + d) = r) :
    Calls Try.prog 21 #[.agg #[.int .i64 a, .int .i64 y, .slice A ins.length c], .agg #[.int .i64 ((a : Int) + k), .int .i64 d, .slice F fins.length fc]] w (RetEdit2 w a y r (.bool true)) := by
  have HRR := Lib.hid hr
  have HA := Lib.hid hA
  have HF := Lib.hid hF
  clear hA hF hr
  have k0 : (0 : Int) ≤ (k : Int) := by omega
  have k1 : (k : Int) ≤ (c : Int) := by omega
  have k2 : (0 : Int) ≤ (k : Int) + (d : Int) := by omega
  have k3 : (k : Int) + (d : Int) ≤ (ins.length : Int) := by omega
  have k4 : IntKind.i64.wrap ((k : Int) + (d : Int)) = (k : Int) + (d : Int) := IntWalk.i64_in _ (by omega)
  have k5 : ((k : Int) + (d : Int)).toNat = k + d := by omega
  have k6 : (a : Int) + (k : Int) - (a : Int) = (k : Int) := by omega
  go_enter Try.func21, Try.ntmps21
  have HK := Lib.hid (checkB_ok h (by omega))
  go_wp2_with fail
  refine (check2_any _ _ _ _ _ _ _ _ HK.out).mono ?_
  rintro e w1 ⟨rfl, hb1⟩
  obtain ⟨hX, hX', hY, hbw⟩ := box333 hb1
  obtain ⟨hc0, hc1, hc2⟩ := hX.cells3
  obtain ⟨hc0', hc1', hc2'⟩ := hX'.cells3
  have HX := Lib.hid hX
  have HX' := Lib.hid hX'
  have HY := Lib.hid hY
  have HB1 := Lib.hid hbw
  have hn := hY.lt
  clear hX hX' hY hbw hb1
  go_wp2_with fail
  go_region_held3 (fun w' => w'.cell? ⟨w.heap.size, 0, none⟩ = some (.int .i64 a) ∧ w'.cell? ⟨w.heap.size, 1, none⟩ = some (.int .i64 y) ∧ w'.cell? ⟨w.heap.size, 2, none⟩ = some (.slice A ins.length c) ∧ w'.cell? ⟨w.heap.size + 1, 1, none⟩ = some (.int .i64 d) ∧ w'.cell? ⟨w.heap.size + 1, 2, none⟩ = some (.slice F fins.length fc))
    (first | exact ⟨hX.cell 0, hX.cell 1, hX.cell 2, hX'.cell 1, hX'.cell 2⟩ | exact ⟨(hX.far3 (by omega) _ _ _).cell 0, (hX.far3 (by omega) _ _ _).cell 1, (hX.far3 (by omega) _ _ _).cell 2, (hX'.far3 (by omega) _ _ _).cell 1, (hX'.far3 (by omega) _ _ _).cell 2⟩ | go_keep)
    (first | (go_at_call 29
              refine (join_n _ _ _ _ _ _ B (ins.take k) fins (ins.drop (k + d)) r _ _ _ _ (by simp; omega) rfl (by simp) HRR.out (HA.out.init.below (HB1.out.mono hB).drew) (HF.out.below (HB1.out.mono hB).drew) ((HA.out.tail hc).below (HB1.out.mono hB).drew) (Nat.le_trans hB HB1.out.size) (by omega)).mono ?_
              rintro e w2 ⟨A', c', rfl, hl1, hl2, hr, hnw, hb2⟩
              have hX := HX.out.after (undrew hb2)
              have hX' := HX'.out.after (undrew hb2)
              have hY := HY.out.after (undrew hb2)
              obtain ⟨hy0, hy1, hy2⟩ := hY.cells3
              obtain ⟨hf0, hf1, hf2⟩ := hY.free3))
  have HN := Lib.hid hnw
  have HR := Lib.hid hr
  have HL := Lib.hid hl1
  have HB2 := Lib.hid (below_then HB1.out.drew hb2 (Nat.le_refl _))
  have HY2 := Lib.hid hY
  clear hr hl1 hb2 hnw hX hX' hY
  go_wp2
  refine bodyPost_ret (v := .tuple #[.agg #[.int .i64 a, .int .i64 y, .slice A' r.length c'], .bool true]) ?_ rfl ?_
  · have HY3 := ((HY2.out.set_ 0 (.int .i64 a)).set_ 1 (.int .i64 y)).set_ 2 (.slice A' r.length c')
    obtain ⟨g0, g1, g2⟩ := HY3.cells3
    simp [results, Try.results21, go_sem, g0, g1, g2]
  · refine ⟨A', c', rfl, HL.out, hl2, ?_, HN.out.mono HB1.out.size, ?_⟩
    · exact (HR.out.far3 HN.out hn _ _ _).lt
    · exact below_set3 HB2.out (by omega) _ _ _
theorem merge_no (x y u v : Int) (A F : Option Addr) (n c m fc : Nat) (w : World) (hn : n ≤ 60000) (hx : x ≤ 9223372036854775807) (hu : u ≤ 9223372036854775807)
    (hno : ¬ (0 ≤ x ∧ 0 ≤ y ∧ x ≤ u ∧ u - x ≤ n ∧ 0 ≤ v ∧ v ≤ n - (u - x))) :
    Calls Try.prog 20 #[.agg #[.int .i64 x, .int .i64 y, .slice A n c], .agg #[.int .i64 u, .int .i64 v, .slice F m fc]] w (RetEdit2 w 0 0 [] (.bool false)) := by
  go_enter Try.func20, Try.ntmps20
  go_wp2_with fail
  all_goals first
    | (refine bodyPost_ret (v := .tuple #[.agg #[.int .i64 0, .int .i64 0, .slice none 0 0], .bool false]) (by simp [results, Try.results20, go_sem]) rfl ⟨none, 0, rfl, Nat.le_refl _, by simp [maxLen], Row.nil, NewAt.none_, ?_⟩
       exact (((Below.refl _ _).alloc (Nat.le_refl _) _).alloc (by simp) _).alloc (by simp; omega) _)
    | (exfalso; omega)
theorem merge2_no (x y u v : Int) (A F : Option Addr) (n c m fc : Nat) (w : World) (hn : n ≤ 60000) (hx : x ≤ 9223372036854775807) (hu : u ≤ 9223372036854775807)
    (hno : ¬ (0 ≤ x ∧ 0 ≤ y ∧ x ≤ u ∧ u - x ≤ n ∧ 0 ≤ v ∧ v ≤ n - (u - x))) :
    Calls Try.prog 21 #[.agg #[.int .i64 x, .int .i64 y, .slice A n c], .agg #[.int .i64 u, .int .i64 v, .slice F m fc]] w (RetEdit2 w 0 0 [] (.bool false)) := by
  by_cases h1 : 0 ≤ x ∧ 0 ≤ y ∧ x ≤ u
  · obtain ⟨ha, hb, hc⟩ := h1
    have HK : Hid (checkB (u - x) v n = 1) := by
      show _ = _
      have hw : u - x ≤ n → wrap64 ((n : Int) - (u - x)) = n - (u - x) := fun h => IntWalk.wrap64_in _ ⟨by omega, by omega⟩
      unfold checkB
      by_cases h : u - x ≤ n
      · rw [hw h, if_pos (by omega)]
      · rw [if_pos (by omega)]
    go_enter Try.func21, Try.ntmps21
    go_wp2_with fail
    refine (check2_any _ _ _ _ _ _ _ _ HK.out).mono ?_
    rintro e w1 ⟨rfl, hb1⟩
    obtain ⟨hX, hX', hY, hbw⟩ := box333 hb1
    obtain ⟨hy0, hy1, hy2⟩ := hY.cells3
    obtain ⟨hf0, hf1, hf2⟩ := hY.free3
    have HY := Lib.hid hY
    have HB1 := Lib.hid hbw
    clear hX hX' hY hbw hb1
    go_wp2_with fail
    refine bodyPost_ret (v := .tuple #[.agg #[.int .i64 0, .int .i64 0, .slice none 0 0], .bool false]) ?_ rfl ?_
    · have HY3 := ((HY.out.set_ 0 (.int .i64 0)).set_ 1 (.int .i64 0)).set_ 2 (.slice none 0 0)
      obtain ⟨g0, g1, g2⟩ := HY3.cells3
      simp [results, Try.results21, go_sem, g0, g1, g2]
    · exact ⟨none, 0, rfl, Nat.le_refl _, by simp [maxLen], Row.nil, NewAt.none_, below_set3 HB1.out (by omega) _ _ _⟩
  · clear hno
    go_enter Try.func21, Try.ntmps21
    go_wp2_with fail
    all_goals first
      | (refine bodyPost_ret (v := .tuple #[.agg #[.int .i64 0, .int .i64 0, .slice none 0 0], .bool false]) (by simp [results, Try.results21, go_sem]) rfl ⟨none, 0, rfl, Nat.le_refl _, by simp [maxLen], Row.nil, NewAt.none_, ?_⟩
         exact (((Below.refl _ _).alloc (Nat.le_refl _) _).alloc (by simp) _).alloc (by simp; omega) _)
      | (exfalso; omega)
/-- when Merge merges -/
def mergeable (x y u v : Int) (n : Nat) : Prop := 0 ≤ x ∧ 0 ≤ y ∧ x ≤ u ∧ u - x ≤ n ∧ 0 ≤ v ∧ v ≤ n - (u - x)
instance (x y u v : Int) (n : Nat) : Decidable (mergeable x y u v n) := by unfold mergeable; infer_instance
end Go.Proofs.Ytmiebgejmiadlaa
