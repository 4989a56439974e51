/-
  EditsInverts: for every input the law returns true, and its arguments read as before. No condition.
-/
import Derived.Test.YtmiebgejmiadlaaRows
import Derived.Test.YtmiebgejmiadlaaEd9
import Derived.Test.YtmiebgejmiadlaaEd7
import Derived.Test.YtmiebgejmiadlaaLift
import Derived.Test.YtmiebgejmiadlaaSeq
namespace Go.Proofs.Ytmiebgejmiadlaa.LInverts
open Go.ChangeShapes Go.WideShapes Go.ChangeAt Go.RowKit Go.UtYtmiebgejmiadlaa Go.Joins
set_option maxHeartbeats 2000000 in
theorem walk (w : World) (x0 y0 : Int) (A0 : Option Addr) (c0 : Nat) (xs0 : List Int) (hx0 : -9223372036854775808 ≤ x0 ∧ x0 ≤ 9223372036854775807) (hy0 : -9223372036854775808 ≤ y0 ∧ y0 ≤ 9223372036854775807) (hc0 : xs0.length ≤ c0) (hm0 : c0 ≤ maxLen) (hR0 : Row w w.heap.size A0 (ints xs0)) (A1 : Option Addr) (c1 : Nat) (xs1 : List Int) (hc1 : xs1.length ≤ c1) (hm1 : c1 ≤ maxLen) (hR1 : Row w w.heap.size A1 (ints xs1)) (hw1 : ∀ n ∈ xs1, -9223372036854775808 ≤ n ∧ n ≤ 9223372036854775807) :
    Calls Try.prog 10 #[.agg #[.int .i64 x0, .int .i64 y0, .slice A0 xs0.length c0], .slice A1 xs1.length c1] w fun e w' => e = .returned (.bool true) ∧ Below w.heap.size w w' := by
  have RA := Lib.hid hR0
  have RT := Lib.hid hR1
  clear hR0 hR1 hw1
  cases hd : decide ((xs0.length : Int) ≤ 40) with
  | false =>
    have HD0 := Lib.hid hd
    clear hd
    go_enter Try.func10, Try.ntmps10
    go_wp2_with fail
    have jKX := (Blk.new w 24 #[.int .i64 x0, .int .i64 y0, .slice A0 xs0.length c0])
    refine (small_any _ _ _ _ _ _ _ HD0.out).mono ?_
    rintro e w1 ⟨rfl, hb⟩
    have hbc : Below w.heap.size w w1 := ((Below.refl _ _).alloc (Nat.le_refl _) _).trans (hb.mono (by simp; try omega))
    have HB1 := Lib.hid hbc
    have KX1 := Lib.hid (jKX.after hb)
    have RA1 := Lib.hid (RA.out.below hbc).lt
    have RT1 := Lib.hid (RT.out.below hbc).lt
    clear hb hbc jKX RA RT 
    obtain ⟨fKX0, fKX1, fKX2⟩ := KX1.out.cells3
    have qKX := KX1.out.lt
    go_wp2_with fail
    go_wp2_with fail
    refine (alive_any _).mono ?_
    rintro e w2 ⟨rfl, hb⟩
    have hbc := hb
    have HB2 := Lib.hid (below_then HB1.out hbc (Nat.le_refl _))
    have KX2 := Lib.hid (KX1.out.after hbc)
    have RA2 := Lib.hid (RA1.out.below hbc).lt
    have RT2 := Lib.hid (RT1.out.below hbc).lt
    clear hb hbc HB1 KX1 RA1 RT1 fKX0 fKX1 fKX2 qKX
    obtain ⟨fKX0, fKX1, fKX2⟩ := KX2.out.cells3
    have qKX := KX2.out.lt
    go_wp2_with fail
    go_ret
    exact ⟨rfl, HB2.out⟩
  | true =>
    have l0 : xs0.length ≤ 40 := by have := of_decide_eq_true hd; omega
    have HD0 := Lib.hid hd
    clear hd
    cases hd : decide ((xs1.length : Int) ≤ 60) with
    | false =>
      have HD1 := Lib.hid hd
      clear hd
      go_enter Try.func10, Try.ntmps10
      go_wp2_with fail
      have jKX := (Blk.new w 24 #[.int .i64 x0, .int .i64 y0, .slice A0 xs0.length c0])
      refine (small_any _ _ _ _ _ _ _ HD0.out).mono ?_
      rintro e w1 ⟨rfl, hb⟩
      have hbc : Below w.heap.size w w1 := ((Below.refl _ _).alloc (Nat.le_refl _) _).trans (hb.mono (by simp; try omega))
      have HB1 := Lib.hid hbc
      have KX1 := Lib.hid (jKX.after hb)
      have RA1 := Lib.hid (RA.out.below hbc).lt
      have RT1 := Lib.hid (RT.out.below hbc).lt
      clear hb hbc jKX RA RT 
      obtain ⟨fKX0, fKX1, fKX2⟩ := KX1.out.cells3
      have qKX := KX1.out.lt
      go_wp2_with fail
      refine (few_any _ _ _ _ _ HD1.out).mono ?_
      rintro e w' ⟨rfl, rfl⟩
      go_wp2_with fail
      refine (alive_any _).mono ?_
      rintro e w2 ⟨rfl, hb⟩
      have hbc := hb
      have HB2 := Lib.hid (below_then HB1.out hbc (Nat.le_refl _))
      have KX2 := Lib.hid (KX1.out.after hbc)
      have RA2 := Lib.hid (RA1.out.below hbc).lt
      have RT2 := Lib.hid (RT1.out.below hbc).lt
      clear hb hbc HB1 KX1 RA1 RT1 fKX0 fKX1 fKX2 qKX
      obtain ⟨fKX0, fKX1, fKX2⟩ := KX2.out.cells3
      have qKX := KX2.out.lt
      go_wp2_with fail
      go_ret
      exact ⟨rfl, HB2.out⟩
    | true =>
      have l1 : xs1.length ≤ 60 := by have := of_decide_eq_true hd; omega
      have HD1 := Lib.hid hd
      clear hd
      go_enter Try.func10, Try.ntmps10
      go_wp2_with fail
      have jKX := (Blk.new w 24 #[.int .i64 x0, .int .i64 y0, .slice A0 xs0.length c0])
      refine (small_any _ _ _ _ _ _ _ HD0.out).mono ?_
      rintro e w1 ⟨rfl, hb⟩
      have hbc : Below w.heap.size w w1 := ((Below.refl _ _).alloc (Nat.le_refl _) _).trans (hb.mono (by simp; try omega))
      have HB1 := Lib.hid hbc
      have KX1 := Lib.hid (jKX.after hb)
      have RA1 := Lib.hid (RA.out.below hbc).lt
      have RT1 := Lib.hid (RT.out.below hbc).lt
      clear hb hbc jKX RA RT 
      obtain ⟨fKX0, fKX1, fKX2⟩ := KX1.out.cells3
      have qKX := KX1.out.lt
      go_wp2_with fail
      refine (few_any _ _ _ _ _ HD1.out).mono ?_
      rintro e w' ⟨rfl, rfl⟩
      go_wp2_with fail
      obtain ⟨u, v, r, code, HZ⟩ : ∃ u v r code, Hid (invZ x0 y0 xs0.length xs1 = (u, v, r, code)) := ⟨_, _, _, _, rfl⟩
      refine (invert_all x0 y0 A0 A1 xs0.length c0 c1 _ xs1 _ RT1.out (Nat.le_refl _) hc1 (by omega) u v r code HZ.out).mono ?_
      rintro e w2 ⟨B1, d1, rfl, hl1, hm1, hr1, -, hb⟩
      have hbc := hb
      have HB2 := Lib.hid (below_then HB1.out hbc (Nat.le_refl _))
      have KX2 := Lib.hid (KX1.out.after hbc)
      have RA2 := Lib.hid (RA1.out.below hbc).lt
      have RT2 := Lib.hid (RT1.out.below hbc).lt
      have R12 := Lib.hid hr1
      clear hb hbc HB1 KX1 RA1 RT1 fKX0 fKX1 fKX2 qKX
      have L1 := Lib.hid (Nat.le_trans hl1 hm1)
      clear hl1 hm1 hr1
      obtain ⟨fKX0, fKX1, fKX2⟩ := KX2.out.cells3
      have qKX := KX2.out.lt
      go_wp2_with fail
      have jM1 := (Blk.new w2 24 #[.int .i64 u, .int .i64 v, .slice B1 r.length d1])
      refine (invert2_all x0 y0 A0 A1 xs0.length c0 c1 _ xs1 _ ((RT2.out.below ((Below.refl _ _).alloc (Nat.le_refl _) _)).lt) (Nat.le_refl _) hc1 (by omega) u v r code HZ.out).mono ?_
      rintro e w3 ⟨B2, d2, rfl, -, -, hr2, -, hb⟩
      have hbc : Below w2.heap.size w2 w3 := ((Below.refl _ _).alloc (Nat.le_refl _) _).trans (hb.mono (by simp; try omega))
      have HB3 := Lib.hid (below_then HB2.out hbc (Nat.le_refl _))
      have KX3 := Lib.hid (KX2.out.after hbc)
      have M13 := Lib.hid (jM1.after hb)
      have RA3 := Lib.hid (RA2.out.below hbc).lt
      have RT3 := Lib.hid (RT2.out.below hbc).lt
      have R13 := Lib.hid (R12.out.below hbc).lt
      have R23 := Lib.hid hr2
      clear hb hbc HB2 KX2 jM1 RA2 RT2 R12 fKX0 fKX1 fKX2 qKX
      clear hr2
      obtain ⟨fKX0, fKX1, fKX2⟩ := KX3.out.cells3
      have qKX := KX3.out.lt
      obtain ⟨fM10, fM11, fM12⟩ := M13.out.cells3
      have qM1 := M13.out.lt
      go_wp2_with fail
      refine (same_eq u v B1 B2 d1 d2 _ r r _ ((R13.out.below ((Below.refl _ _).alloc (Nat.le_refl _) _)).lt) ((R23.out.below ((Below.refl _ _).alloc (Nat.le_refl _) _)).lt) (Nat.le_refl _) L1.out L1.out true (by simp)).mono ?_
      rintro e w4 ⟨rfl, hb⟩
      have hbc : Below w3.heap.size w3 w4 := ((Below.refl _ _).alloc (Nat.le_refl _) _).trans (hb.mono (by simp; try omega))
      have HB4 := Lib.hid (below_then HB3.out hbc (Nat.le_refl _))
      have KX4 := Lib.hid (KX3.out.after hbc)
      have M14 := Lib.hid (M13.out.after hbc)
      have RA4 := Lib.hid (RA3.out.below hbc).lt
      have RT4 := Lib.hid (RT3.out.below hbc).lt
      have R14 := Lib.hid (R13.out.below hbc).lt
      have R24 := Lib.hid (R23.out.below hbc).lt
      clear hb hbc HB3 KX3 M13 RA3 RT3 R13 R23 fKX0 fKX1 fKX2 qKX fM10 fM11 fM12 qM1
      obtain ⟨fKX0, fKX1, fKX2⟩ := KX4.out.cells3
      have qKX := KX4.out.lt
      obtain ⟨fM10, fM11, fM12⟩ := M14.out.cells3
      have qM1 := M14.out.lt
      go_wp2_with fail
      refine (alive_any _).mono ?_
      rintro e w5 ⟨rfl, hb⟩
      have hbc := hb
      have HB5 := Lib.hid (below_then HB4.out hbc (Nat.le_refl _))
      have KX5 := Lib.hid (KX4.out.after hbc)
      have M15 := Lib.hid (M14.out.after hbc)
      have RA5 := Lib.hid (RA4.out.below hbc).lt
      have RT5 := Lib.hid (RT4.out.below hbc).lt
      have R15 := Lib.hid (R14.out.below hbc).lt
      have R25 := Lib.hid (R24.out.below hbc).lt
      clear hb hbc HB4 KX4 M14 RA4 RT4 R14 R24 fKX0 fKX1 fKX2 qKX fM10 fM11 fM12 qM1
      obtain ⟨fKX0, fKX1, fKX2⟩ := KX5.out.cells3
      have qKX := KX5.out.lt
      obtain ⟨fM10, fM11, fM12⟩ := M15.out.cells3
      have qM1 := M15.out.lt
      go_wp2_with fail
      go_ret
      exact ⟨rfl, HB5.out⟩
theorem own : ownKnob Try.prog.godebug = none := by kernel_rfl
theorem laidOut : laidOutB Try.prog = true := by kernel_rfl
set_option maxRecDepth 100000 in
theorem lifted (os : Os) (started : os.Started) (H : Type) (enc : TypeId × Value → H) :
    ReturnsInHanded {} Try.checked os 10 .any (Rows.editsInvertsSpec.pre6 enc Try.prog Try.f10 Rows.editsInvertsRow.domain false) (Rows.editsInvertsSpec.post enc Try.prog Try.f10 false true false false) := by
  refine returnsInHanded_of_change (C := Try.checked) own started (by kernel_rfl) Try.func10
    (ChangeSpec.witness6 (enc := enc) (C := Try.checked) false ⟨#[], #[.agg #[.int .i64 0, .int .i64 0, .slice none 0 0], .slice none 0 0], []⟩ 8 (by kernel_rfl) (by kernel_rfl) (by kernel_rfl) (by kernel_rfl)) ?_
  intro W base args ds gs before hval0 hW hcnd _
  have hval : ∀ (j : Nat) t v, Try.f10.params[j]? = some t → args[j]? = some v → Value.okWide Try.prog W .any base t v := hval0
  have hW' := hW
  obtain ⟨p, q, hA0, hV, rfl, hfz, hnd⟩ := hW
  have hA : DataW.TrodAll enc Try.prog W 0 (fun _ => true) true Try.f10.params.toList args.toList ds p := hA0
  rw [Try.params10] at hA hval
  obtain ⟨v0, v1, d0, d1, p0, p1, rfl, rfl, rfl, h0, h1⟩ := trodAll_two hA
  obtain ⟨rfl, rfl⟩ := trodVars_none hV
  obtain ⟨a00, a01, a02, y00, y01, y02, n0, rfl, rfl, rfl, g00, g01, g02⟩ := open_agg3 Try.underlying24 (by kernel_rfl) (by kernel_rfl) (hval 0 24 v0 rfl rfl) h0
  obtain ⟨x0, hx0, -, wx0⟩ := DataW.trod_int Try.underlying3 g00
  obtain ⟨z0, hz0, -, wz0⟩ := DataW.trod_int Try.underlying3 g01
  obtain ⟨A0, c0, xs0, rfl, hc0, hm0, hR0, hwf0⟩ := open_row Try.underlying22 Try.underlying3 (by kernel_rfl) g02
  injection hx0 with hx0
  injection hz0 with hz0
  subst hx0 hz0
  obtain ⟨ad1, le1, ca1, rfl⟩ := okWide_slice Try.underlying22 (hval 1 22 v1 rfl rfl)
  obtain ⟨fu1, hf1⟩ := h1
  obtain ⟨A1, c1, xs1, hv1, hc1, hm1, hR1, hwf1⟩ := open_row (v := .slice ad1 le1 ca1) Try.underlying22 Try.underlying3 (by kernel_rfl) hf1
  injection hv1 with ea1 eb1 ec1
  subst ea1 eb1 ec1
  refine (walk W x0 z0 A0 c0 xs0 (wf_i64 wx0) (wf_i64 wz0) hc0 hm0 hR0 ad1 ca1 xs1 hc1 hm1 hR1 (fun n hn => wf_i64 (hwf1 n hn))).mono fun e W' ⟨he, hb⟩ => ⟨_, he, ?_⟩
  exact law_post laidOut (by rw [Try.params10]; exact of_decide_eq_true (by kernel_rfl)) rfl rfl Try.underlying4 hW' rfl hb
theorem holds : Rows.EditsInvertsSaid :=
  OpenClaim.holds_of_wide 10 Try.f10 rfl rfl rfl rfl rfl rfl rfl ⟨rfl, rfl, rfl, rfl, rfl⟩ rfl rfl rfl rfl rfl (by kernel_rfl) Try.func10 (by kernel_rfl)
    (of_decide_eq_true (by kernel_rfl)) (by unfold Func.isWrapper; first | (rw [if_pos (by decide +kernel)]; kernel_rfl) | (rw [if_neg (by decide +kernel)]; exact ⟨rfl, rfl⟩))
    (fun os started H enc _ => lifted os started H enc)
end Go.Proofs.Ytmiebgejmiadlaa.LInverts
namespace Go.Proofs.Ytmiebgejmiadlaa
theorem editsInverts_holds : Rows.EditsInvertsSaid := LInverts.holds
end Go.Proofs.Ytmiebgejmiadlaa
