/-
  EditsMerges: for every input the law returns true, and its arguments read as before. No condition.
-/
import Derived.Test.YtmiebgejmiadlaaRows
import Derived.Test.YtmiebgejmiadlaaEd9
import Derived.Test.YtmiebgejmiadlaaEd7
import Derived.Test.YtmiebgejmiadlaaLift
import Derived.Test.YtmiebgejmiadlaaSeq
namespace Go.Proofs.Ytmiebgejmiadlaa.LMerges
open Go.ChangeShapes Go.WideShapes Go.ChangeAt Go.RowKit Go.UtYtmiebgejmiadlaa Go.Joins
set_option maxHeartbeats 2000000 in
theorem walk (w : World) (x0 y0 : Int) (A0 : Option Addr) (c0 : Nat) (xs0 : List Int) (hx0 : -9223372036854775808 ≤ x0 ∧ x0 ≤ 9223372036854775807) (hy0 : -9223372036854775808 ≤ y0 ∧ y0 ≤ 9223372036854775807) (hc0 : xs0.length ≤ c0) (hm0 : c0 ≤ maxLen) (hR0 : Row w w.heap.size A0 (ints xs0)) (x1 y1 : Int) (A1 : Option Addr) (c1 : Nat) (xs1 : List Int) (hx1 : -9223372036854775808 ≤ x1 ∧ x1 ≤ 9223372036854775807) (hy1 : -9223372036854775808 ≤ y1 ∧ y1 ≤ 9223372036854775807) (hc1 : xs1.length ≤ c1) (hm1 : c1 ≤ maxLen) (hR1 : Row w w.heap.size A1 (ints xs1)) :
    Calls Try.prog 5 #[.agg #[.int .i64 x0, .int .i64 y0, .slice A0 xs0.length c0], .agg #[.int .i64 x1, .int .i64 y1, .slice A1 xs1.length c1]] w fun e w' => e = .returned (.bool true) ∧ Below w.heap.size w w' := by
  have RA := Lib.hid hR0
  have RF := Lib.hid hR1
  clear hR0 hR1
  cases hd : decide ((xs0.length : Int) ≤ 40) with
  | false =>
    have HD0 := Lib.hid hd
    clear hd
    go_enter Try.func5, Try.ntmps5
    go_wp2_with fail
    have jKX := ((Blk.new w 24 #[.int .i64 x0, .int .i64 y0, .slice A0 xs0.length c0]).alloc (.cells #[.int .i64 x1, .int .i64 y1, .slice A1 xs1.length c1] 24))
    have jKY := (Blk.at_new (w := w.alloc (.cells #[.int .i64 x0, .int .i64 y0, .slice A0 xs0.length c0] 24)) (g := w.heap.size + 1) (t := 24) (cs := #[.int .i64 x1, .int .i64 y1, .slice A1 xs1.length c1]) (by simp))
    refine (small_any _ _ _ _ _ _ _ HD0.out).mono ?_
    rintro e w1 ⟨rfl, hb⟩
    have hbc : Below w.heap.size w w1 := (((Below.refl _ _).alloc (Nat.le_refl _) _).alloc (by simp; try omega) _).trans (hb.mono (by simp; try omega))
    have HB1 := Lib.hid hbc
    have KX1 := Lib.hid (jKX.after hb)
    have KY1 := Lib.hid (jKY.after hb)
    have RA1 := Lib.hid (RA.out.below hbc).lt
    have RF1 := Lib.hid (RF.out.below hbc).lt
    clear hb hbc jKX jKY RA RF 
    obtain ⟨fKX0, fKX1, fKX2⟩ := KX1.out.cells3
    have qKX := KX1.out.lt
    obtain ⟨fKY0, fKY1, fKY2⟩ := KY1.out.cells3
    have qKY := KY1.out.lt
    go_wp2_with fail
    go_wp2_with fail
    refine (alive_any _).mono ?_
    rintro e w2 ⟨rfl, hb⟩
    have hbc := hb
    have HB2 := Lib.hid (below_then HB1.out hbc (Nat.le_refl _))
    have KX2 := Lib.hid (KX1.out.after hbc)
    have KY2 := Lib.hid (KY1.out.after hbc)
    have RA2 := Lib.hid (RA1.out.below hbc).lt
    have RF2 := Lib.hid (RF1.out.below hbc).lt
    clear hb hbc HB1 KX1 KY1 RA1 RF1 fKX0 fKX1 fKX2 qKX fKY0 fKY1 fKY2 qKY
    obtain ⟨fKX0, fKX1, fKX2⟩ := KX2.out.cells3
    have qKX := KX2.out.lt
    obtain ⟨fKY0, fKY1, fKY2⟩ := KY2.out.cells3
    have qKY := KY2.out.lt
    go_wp2_with fail
    go_ret
    exact ⟨rfl, HB2.out⟩
  | true =>
    have l0 : xs0.length ≤ 40 := by have := of_decide_eq_true hd; omega
    have HD0 := Lib.hid hd
    clear hd
    cases hd : decide ((xs1.length : Int) ≤ 40) with
    | false =>
      have HD1 := Lib.hid hd
      clear hd
      go_enter Try.func5, Try.ntmps5
      go_wp2_with fail
      have jKX := ((Blk.new w 24 #[.int .i64 x0, .int .i64 y0, .slice A0 xs0.length c0]).alloc (.cells #[.int .i64 x1, .int .i64 y1, .slice A1 xs1.length c1] 24))
      have jKY := (Blk.at_new (w := w.alloc (.cells #[.int .i64 x0, .int .i64 y0, .slice A0 xs0.length c0] 24)) (g := w.heap.size + 1) (t := 24) (cs := #[.int .i64 x1, .int .i64 y1, .slice A1 xs1.length c1]) (by simp))
      refine (small_any _ _ _ _ _ _ _ HD0.out).mono ?_
      rintro e w1 ⟨rfl, hb⟩
      have hbc : Below w.heap.size w w1 := (((Below.refl _ _).alloc (Nat.le_refl _) _).alloc (by simp; try omega) _).trans (hb.mono (by simp; try omega))
      have HB1 := Lib.hid hbc
      have KX1 := Lib.hid (jKX.after hb)
      have KY1 := Lib.hid (jKY.after hb)
      have RA1 := Lib.hid (RA.out.below hbc).lt
      have RF1 := Lib.hid (RF.out.below hbc).lt
      clear hb hbc jKX jKY RA RF 
      obtain ⟨fKX0, fKX1, fKX2⟩ := KX1.out.cells3
      have qKX := KX1.out.lt
      obtain ⟨fKY0, fKY1, fKY2⟩ := KY1.out.cells3
      have qKY := KY1.out.lt
      go_wp2_with fail
      refine (small_any _ _ _ _ _ _ _ HD1.out).mono ?_
      rintro e w2 ⟨rfl, hb⟩
      have hbc := hb
      have HB2 := Lib.hid (below_then HB1.out hbc (Nat.le_refl _))
      have KX2 := Lib.hid (KX1.out.after hbc)
      have KY2 := Lib.hid (KY1.out.after hbc)
      have RA2 := Lib.hid (RA1.out.below hbc).lt
      have RF2 := Lib.hid (RF1.out.below hbc).lt
      clear hb hbc HB1 KX1 KY1 RA1 RF1 fKX0 fKX1 fKX2 qKX fKY0 fKY1 fKY2 qKY
      obtain ⟨fKX0, fKX1, fKX2⟩ := KX2.out.cells3
      have qKX := KX2.out.lt
      obtain ⟨fKY0, fKY1, fKY2⟩ := KY2.out.cells3
      have qKY := KY2.out.lt
      go_wp2_with fail
      refine (alive_any _).mono ?_
      rintro e w3 ⟨rfl, hb⟩
      have hbc := hb
      have HB3 := Lib.hid (below_then HB2.out hbc (Nat.le_refl _))
      have KX3 := Lib.hid (KX2.out.after hbc)
      have KY3 := Lib.hid (KY2.out.after hbc)
      have RA3 := Lib.hid (RA2.out.below hbc).lt
      have RF3 := Lib.hid (RF2.out.below hbc).lt
      clear hb hbc HB2 KX2 KY2 RA2 RF2 fKX0 fKX1 fKX2 qKX fKY0 fKY1 fKY2 qKY
      obtain ⟨fKX0, fKX1, fKX2⟩ := KX3.out.cells3
      have qKX := KX3.out.lt
      obtain ⟨fKY0, fKY1, fKY2⟩ := KY3.out.cells3
      have qKY := KY3.out.lt
      go_wp2_with fail
      go_ret
      exact ⟨rfl, HB3.out⟩
    | true =>
      have l1 : xs1.length ≤ 40 := by have := of_decide_eq_true hd; omega
      have HD1 := Lib.hid hd
      clear hd
      go_enter Try.func5, Try.ntmps5
      go_wp2_with fail
      have jKX := ((Blk.new w 24 #[.int .i64 x0, .int .i64 y0, .slice A0 xs0.length c0]).alloc (.cells #[.int .i64 x1, .int .i64 y1, .slice A1 xs1.length c1] 24))
      have jKY := (Blk.at_new (w := w.alloc (.cells #[.int .i64 x0, .int .i64 y0, .slice A0 xs0.length c0] 24)) (g := w.heap.size + 1) (t := 24) (cs := #[.int .i64 x1, .int .i64 y1, .slice A1 xs1.length c1]) (by simp))
      refine (small_any _ _ _ _ _ _ _ HD0.out).mono ?_
      rintro e w1 ⟨rfl, hb⟩
      have hbc : Below w.heap.size w w1 := (((Below.refl _ _).alloc (Nat.le_refl _) _).alloc (by simp; try omega) _).trans (hb.mono (by simp; try omega))
      have HB1 := Lib.hid hbc
      have KX1 := Lib.hid (jKX.after hb)
      have KY1 := Lib.hid (jKY.after hb)
      have RA1 := Lib.hid (RA.out.below hbc).lt
      have RF1 := Lib.hid (RF.out.below hbc).lt
      clear hb hbc jKX jKY RA RF 
      obtain ⟨fKX0, fKX1, fKX2⟩ := KX1.out.cells3
      have qKX := KX1.out.lt
      obtain ⟨fKY0, fKY1, fKY2⟩ := KY1.out.cells3
      have qKY := KY1.out.lt
      go_wp2_with fail
      refine (small_any _ _ _ _ _ _ _ HD1.out).mono ?_
      rintro e w2 ⟨rfl, hb⟩
      have hbc := hb
      have HB2 := Lib.hid (below_then HB1.out hbc (Nat.le_refl _))
      have KX2 := Lib.hid (KX1.out.after hbc)
      have KY2 := Lib.hid (KY1.out.after hbc)
      have RA2 := Lib.hid (RA1.out.below hbc).lt
      have RF2 := Lib.hid (RF1.out.below hbc).lt
      clear hb hbc HB1 KX1 KY1 RA1 RF1 fKX0 fKX1 fKX2 qKX fKY0 fKY1 fKY2 qKY
      obtain ⟨fKX0, fKX1, fKX2⟩ := KX2.out.cells3
      have qKX := KX2.out.lt
      obtain ⟨fKY0, fKY1, fKY2⟩ := KY2.out.cells3
      have qKY := KY2.out.lt
      go_wp2_with fail
      obtain ⟨u, v, r, t, HZ⟩ : ∃ u v r t, Hid (merZ x0 y0 x1 y1 xs0 xs1 = (u, v, r, t)) := ⟨_, _, _, _, rfl⟩
      refine (merge_all x0 y0 x1 y1 A0 A1 c0 c1 _ xs0 xs1 _ RA2.out RF2.out (Nat.le_refl _) hc0 (by omega) hx0.2 hx1.2 u v r t HZ.out).mono ?_
      rintro e w3 ⟨B1, d1, rfl, hl1, hm1, hr1, -, hb⟩
      have hbc := hb
      have HB3 := Lib.hid (below_then HB2.out hbc (Nat.le_refl _))
      have KX3 := Lib.hid (KX2.out.after hbc)
      have KY3 := Lib.hid (KY2.out.after hbc)
      have RA3 := Lib.hid (RA2.out.below hbc).lt
      have RF3 := Lib.hid (RF2.out.below hbc).lt
      have R13 := Lib.hid hr1
      clear hb hbc HB2 KX2 KY2 RA2 RF2 fKX0 fKX1 fKX2 qKX fKY0 fKY1 fKY2 qKY
      have L1 := Lib.hid (Nat.le_trans hl1 hm1)
      clear hl1 hm1 hr1
      obtain ⟨fKX0, fKX1, fKX2⟩ := KX3.out.cells3
      have qKX := KX3.out.lt
      obtain ⟨fKY0, fKY1, fKY2⟩ := KY3.out.cells3
      have qKY := KY3.out.lt
      go_wp2_with fail
      have jM1 := (Blk.new w3 24 #[.int .i64 u, .int .i64 v, .slice B1 r.length d1])
      refine (merge2_all x0 y0 x1 y1 A0 A1 c0 c1 _ xs0 xs1 _ ((RA3.out.below ((Below.refl _ _).alloc (Nat.le_refl _) _)).lt) ((RF3.out.below ((Below.refl _ _).alloc (Nat.le_refl _) _)).lt) (Nat.le_refl _) hc0 (by omega) hx0.2 hx1.2 u v r t HZ.out).mono ?_
      rintro e w4 ⟨B2, d2, rfl, -, -, hr2, -, hb⟩
      have hbc : Below w3.heap.size w3 w4 := ((Below.refl _ _).alloc (Nat.le_refl _) _).trans (hb.mono (by simp; try omega))
      have HB4 := Lib.hid (below_then HB3.out hbc (Nat.le_refl _))
      have KX4 := Lib.hid (KX3.out.after hbc)
      have KY4 := Lib.hid (KY3.out.after hbc)
      have M14 := Lib.hid (jM1.after hb)
      have RA4 := Lib.hid (RA3.out.below hbc).lt
      have RF4 := Lib.hid (RF3.out.below hbc).lt
      have R14 := Lib.hid (R13.out.below hbc).lt
      have R24 := Lib.hid hr2
      clear hb hbc HB3 KX3 KY3 jM1 RA3 RF3 R13 fKX0 fKX1 fKX2 qKX fKY0 fKY1 fKY2 qKY
      clear hr2
      obtain ⟨fKX0, fKX1, fKX2⟩ := KX4.out.cells3
      have qKX := KX4.out.lt
      obtain ⟨fKY0, fKY1, fKY2⟩ := KY4.out.cells3
      have qKY := KY4.out.lt
      obtain ⟨fM10, fM11, fM12⟩ := M14.out.cells3
      have qM1 := M14.out.lt
      go_wp2_with fail
      refine (same_eq u v B1 B2 d1 d2 _ r r _ ((R14.out.below ((Below.refl _ _).alloc (Nat.le_refl _) _)).lt) ((R24.out.below ((Below.refl _ _).alloc (Nat.le_refl _) _)).lt) (Nat.le_refl _) L1.out L1.out true (by simp)).mono ?_
      rintro e w5 ⟨rfl, hb⟩
      have hbc : Below w4.heap.size w4 w5 := ((Below.refl _ _).alloc (Nat.le_refl _) _).trans (hb.mono (by simp; try omega))
      have HB5 := Lib.hid (below_then HB4.out hbc (Nat.le_refl _))
      have KX5 := Lib.hid (KX4.out.after hbc)
      have KY5 := Lib.hid (KY4.out.after hbc)
      have M15 := Lib.hid (M14.out.after hbc)
      have RA5 := Lib.hid (RA4.out.below hbc).lt
      have RF5 := Lib.hid (RF4.out.below hbc).lt
      have R15 := Lib.hid (R14.out.below hbc).lt
      have R25 := Lib.hid (R24.out.below hbc).lt
      clear hb hbc HB4 KX4 KY4 M14 RA4 RF4 R14 R24 fKX0 fKX1 fKX2 qKX fKY0 fKY1 fKY2 qKY fM10 fM11 fM12 qM1
      obtain ⟨fKX0, fKX1, fKX2⟩ := KX5.out.cells3
      have qKX := KX5.out.lt
      obtain ⟨fKY0, fKY1, fKY2⟩ := KY5.out.cells3
      have qKY := KY5.out.lt
      obtain ⟨fM10, fM11, fM12⟩ := M15.out.cells3
      have qM1 := M15.out.lt
      go_wp2_with fail
      refine (alive_any _).mono ?_
      rintro e w6 ⟨rfl, hb⟩
      have hbc := hb
      have HB6 := Lib.hid (below_then HB5.out hbc (Nat.le_refl _))
      have KX6 := Lib.hid (KX5.out.after hbc)
      have KY6 := Lib.hid (KY5.out.after hbc)
      have M16 := Lib.hid (M15.out.after hbc)
      have RA6 := Lib.hid (RA5.out.below hbc).lt
      have RF6 := Lib.hid (RF5.out.below hbc).lt
      have R16 := Lib.hid (R15.out.below hbc).lt
      have R26 := Lib.hid (R25.out.below hbc).lt
      clear hb hbc HB5 KX5 KY5 M15 RA5 RF5 R15 R25 fKX0 fKX1 fKX2 qKX fKY0 fKY1 fKY2 qKY fM10 fM11 fM12 qM1
      obtain ⟨fKX0, fKX1, fKX2⟩ := KX6.out.cells3
      have qKX := KX6.out.lt
      obtain ⟨fKY0, fKY1, fKY2⟩ := KY6.out.cells3
      have qKY := KY6.out.lt
      obtain ⟨fM10, fM11, fM12⟩ := M16.out.cells3
      have qM1 := M16.out.lt
      go_wp2_with fail
      go_ret
      exact ⟨rfl, HB6.out⟩
theorem own : ownKnob Try.prog.godebug = none := by kernel_rfl
theorem laidOut : laidOutB Try.prog = true := by kernel_rfl
set_option maxRecDepth 100000 in
theorem lifted (os : Os) (started : os.Started) (H : Type) (enc : TypeId × Value → H) :
    ReturnsInHanded {} Try.checked os 5 .any (Rows.editsMergesSpec.pre6 enc Try.prog Try.f5 Rows.editsMergesRow.domain false) (Rows.editsMergesSpec.post enc Try.prog Try.f5 false true false false) := by
  refine returnsInHanded_of_change (C := Try.checked) own started (by kernel_rfl) Try.func5
    (ChangeSpec.witness6 (enc := enc) (C := Try.checked) false ⟨#[], #[.agg #[.int .i64 0, .int .i64 0, .slice none 0 0], .agg #[.int .i64 0, .int .i64 0, .slice none 0 0]], []⟩ 8 (by kernel_rfl) (by kernel_rfl) (by kernel_rfl) (by kernel_rfl)) ?_
  intro W base args ds gs before hval0 hW hcnd _
  have hval : ∀ (j : Nat) t v, Try.f5.params[j]? = some t → args[j]? = some v → Value.okWide Try.prog W .any base t v := hval0
  have hW' := hW
  obtain ⟨p, q, hA0, hV, rfl, hfz, hnd⟩ := hW
  have hA : DataW.TrodAll enc Try.prog W 0 (fun _ => true) true Try.f5.params.toList args.toList ds p := hA0
  rw [Try.params5] at hA hval
  obtain ⟨v0, v1, d0, d1, p0, p1, rfl, rfl, rfl, h0, h1⟩ := trodAll_two hA
  obtain ⟨rfl, rfl⟩ := trodVars_none hV
  obtain ⟨a00, a01, a02, y00, y01, y02, n0, rfl, rfl, rfl, g00, g01, g02⟩ := open_agg3 Try.underlying24 (by kernel_rfl) (by kernel_rfl) (hval 0 24 v0 rfl rfl) h0
  obtain ⟨x0, hx0, -, wx0⟩ := DataW.trod_int Try.underlying3 g00
  obtain ⟨z0, hz0, -, wz0⟩ := DataW.trod_int Try.underlying3 g01
  obtain ⟨A0, c0, xs0, rfl, hc0, hm0, hR0, hwf0⟩ := open_row Try.underlying22 Try.underlying3 (by kernel_rfl) g02
  injection hx0 with hx0
  injection hz0 with hz0
  subst hx0 hz0
  obtain ⟨a10, a11, a12, y10, y11, y12, n1, rfl, rfl, rfl, g10, g11, g12⟩ := open_agg3 Try.underlying24 (by kernel_rfl) (by kernel_rfl) (hval 1 24 v1 rfl rfl) h1
  obtain ⟨x1, hx1, -, wx1⟩ := DataW.trod_int Try.underlying3 g10
  obtain ⟨z1, hz1, -, wz1⟩ := DataW.trod_int Try.underlying3 g11
  obtain ⟨A1, c1, xs1, rfl, hc1, hm1, hR1, hwf1⟩ := open_row Try.underlying22 Try.underlying3 (by kernel_rfl) g12
  injection hx1 with hx1
  injection hz1 with hz1
  subst hx1 hz1
  refine (walk W x0 z0 A0 c0 xs0 (wf_i64 wx0) (wf_i64 wz0) hc0 hm0 hR0 x1 z1 A1 c1 xs1 (wf_i64 wx1) (wf_i64 wz1) hc1 hm1 hR1).mono fun e W' ⟨he, hb⟩ => ⟨_, he, ?_⟩
  exact law_post laidOut (by rw [Try.params5]; exact of_decide_eq_true (by kernel_rfl)) rfl rfl Try.underlying4 hW' rfl hb
theorem holds : Rows.EditsMergesSaid :=
  OpenClaim.holds_of_wide 5 Try.f5 rfl rfl rfl rfl rfl rfl rfl ⟨rfl, rfl, rfl, rfl, rfl⟩ rfl rfl rfl rfl rfl (by kernel_rfl) Try.func5 (by kernel_rfl)
    (of_decide_eq_true (by kernel_rfl)) (by unfold Func.isWrapper; first | (rw [if_pos (by decide +kernel)]; kernel_rfl) | (rw [if_neg (by decide +kernel)]; exact ⟨rfl, rfl⟩))
    (fun os started H enc _ => lifted os started H enc)
end Go.Proofs.Ytmiebgejmiadlaa.LMerges
namespace Go.Proofs.Ytmiebgejmiadlaa
theorem editsMerges_holds : Rows.EditsMergesSaid := LMerges.holds
end Go.Proofs.Ytmiebgejmiadlaa
