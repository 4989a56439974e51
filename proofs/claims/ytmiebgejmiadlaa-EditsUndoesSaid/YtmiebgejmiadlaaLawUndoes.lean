/-
  EditsUndoes: for every input the law returns true, and its arguments read as before. No condition.
-/
import Derived.Test.YtmiebgejmiadlaaRows
import Derived.Test.YtmiebgejmiadlaaEd9
import Derived.Test.YtmiebgejmiadlaaEd7
import Derived.Test.YtmiebgejmiadlaaLift
import Derived.Test.YtmiebgejmiadlaaSeq
import Derived.Test.YtmiebgejmiadlaaEdP
namespace Go.Proofs.Ytmiebgejmiadlaa.LUndoes
open Go.ChangeShapes Go.WideShapes Go.ChangeAt Go.RowKit Go.UtYtmiebgejmiadlaa Go.Joins
set_option maxHeartbeats 2000000 in
theorem walk (w : World) (x0 y0 : Int) (A0 : Option Addr) (c0 : Nat) (xs0 : List Int) (hx0 : -9223372036854775808 ≤ x0 ∧ x0 ≤ 9223372036854775807) (hy0 : -9223372036854775808 ≤ y0 ∧ y0 ≤ 9223372036854775807) (hc0 : xs0.length ≤ c0) (hm0 : c0 ≤ maxLen) (hR0 : Row w w.heap.size A0 (ints xs0)) (A1 : Option Addr) (c1 : Nat) (xs1 : List Int) (hc1 : xs1.length ≤ c1) (hm1 : c1 ≤ maxLen) (hR1 : Row w w.heap.size A1 (ints xs1)) (hw1 : ∀ n ∈ xs1, -9223372036854775808 ≤ n ∧ n ≤ 9223372036854775807) :
    Calls Try.prog 11 #[.agg #[.int .i64 x0, .int .i64 y0, .slice A0 xs0.length c0], .slice A1 xs1.length c1] w fun e w' => e = .returned (.bool true) ∧ Below w.heap.size w w' := by
  have RA := Lib.hid hR0
  have RT := Lib.hid hR1
  clear hR0 hR1 hw1
  cases hd : decide ((xs0.length : Int) ≤ 40) with
  | false =>
    have HD0 := Lib.hid hd
    clear hd
    go_enter Try.func11, Try.ntmps11
    go_wp2_with fail
    have jKX := (Blk.new w 24 #[.int .i64 x0, .int .i64 y0, .slice A0 xs0.length c0])
    refine (small_any _ _ _ _ _ _ _ HD0.out).mono ?_
    rintro e w1 ⟨rfl, hb⟩
    have hbc : Below w.heap.size w w1 := ((Below.refl _ _).alloc (Nat.le_refl _) _).trans (hb.mono (by simp; try omega))
    have HB1 := Lib.hid hbc
    have KX1 := Lib.hid (jKX.after hb)
    have RA1 := Lib.hid (RA.out.below hbc).lt
    have RT1 := Lib.hid (RT.out.below hbc).lt
    clear hb hbc jKX RA RT 
    obtain ⟨fKX0, fKX1, fKX2⟩ := KX1.out.cells3
    have qKX := KX1.out.lt
    go_wp2_with fail
    go_wp2_with fail
    refine (alive_any _).mono ?_
    rintro e w2 ⟨rfl, hb⟩
    have hbc := hb
    have HB2 := Lib.hid (below_then HB1.out hbc (Nat.le_refl _))
    have KX2 := Lib.hid (KX1.out.after hbc)
    have RA2 := Lib.hid (RA1.out.below hbc).lt
    have RT2 := Lib.hid (RT1.out.below hbc).lt
    clear hb hbc HB1 KX1 RA1 RT1 fKX0 fKX1 fKX2 qKX
    obtain ⟨fKX0, fKX1, fKX2⟩ := KX2.out.cells3
    have qKX := KX2.out.lt
    go_wp2_with fail
    go_ret
    exact ⟨rfl, HB2.out⟩
  | true =>
    have l0 : xs0.length ≤ 40 := by have := of_decide_eq_true hd; omega
    have HD0 := Lib.hid hd
    clear hd
    cases hd : decide ((xs1.length : Int) ≤ 60) with
    | false =>
      have HD1 := Lib.hid hd
      clear hd
      go_enter Try.func11, Try.ntmps11
      go_wp2_with fail
      have jKX := (Blk.new w 24 #[.int .i64 x0, .int .i64 y0, .slice A0 xs0.length c0])
      refine (small_any _ _ _ _ _ _ _ HD0.out).mono ?_
      rintro e w1 ⟨rfl, hb⟩
      have hbc : Below w.heap.size w w1 := ((Below.refl _ _).alloc (Nat.le_refl _) _).trans (hb.mono (by simp; try omega))
      have HB1 := Lib.hid hbc
      have KX1 := Lib.hid (jKX.after hb)
      have RA1 := Lib.hid (RA.out.below hbc).lt
      have RT1 := Lib.hid (RT.out.below hbc).lt
      clear hb hbc jKX RA RT 
      obtain ⟨fKX0, fKX1, fKX2⟩ := KX1.out.cells3
      have qKX := KX1.out.lt
      go_wp2_with fail
      refine (few_any _ _ _ _ _ HD1.out).mono ?_
      rintro e w' ⟨rfl, rfl⟩
      go_wp2_with fail
      refine (alive_any _).mono ?_
      rintro e w2 ⟨rfl, hb⟩
      have hbc := hb
      have HB2 := Lib.hid (below_then HB1.out hbc (Nat.le_refl _))
      have KX2 := Lib.hid (KX1.out.after hbc)
      have RA2 := Lib.hid (RA1.out.below hbc).lt
      have RT2 := Lib.hid (RT1.out.below hbc).lt
      clear hb hbc HB1 KX1 RA1 RT1 fKX0 fKX1 fKX2 qKX
      obtain ⟨fKX0, fKX1, fKX2⟩ := KX2.out.cells3
      have qKX := KX2.out.lt
      go_wp2_with fail
      go_ret
      exact ⟨rfl, HB2.out⟩
    | true =>
      have l1 : xs1.length ≤ 60 := by have := of_decide_eq_true hd; omega
      have HD1 := Lib.hid hd
      clear hd
      go_enter Try.func11, Try.ntmps11
      go_wp2_with fail
      have jKX := (Blk.new w 24 #[.int .i64 x0, .int .i64 y0, .slice A0 xs0.length c0])
      refine (small_any _ _ _ _ _ _ _ HD0.out).mono ?_
      rintro e w1 ⟨rfl, hb⟩
      have hbc : Below w.heap.size w w1 := ((Below.refl _ _).alloc (Nat.le_refl _) _).trans (hb.mono (by simp; try omega))
      have HB1 := Lib.hid hbc
      have KX1 := Lib.hid (jKX.after hb)
      have RA1 := Lib.hid (RA.out.below hbc).lt
      have RT1 := Lib.hid (RT.out.below hbc).lt
      clear hb hbc jKX RA RT 
      obtain ⟨fKX0, fKX1, fKX2⟩ := KX1.out.cells3
      have qKX := KX1.out.lt
      go_wp2_with fail
      refine (few_any _ _ _ _ _ HD1.out).mono ?_
      rintro e w' ⟨rfl, rfl⟩
      go_wp2_with fail
      by_cases hk : checkB x0 y0 xs1.length = 1
      · have HK := Lib.hid hk
        clear hk
        refine (apply_no x0 y0 A0 A1 xs0.length c0 c1 xs1.length _ HK.out).mono ?_
        rintro e w2 ⟨B1, d1, rfl, -, -, -, -, hb⟩
        have hbc := hb
        have HB2 := Lib.hid (below_then HB1.out hbc (Nat.le_refl _))
        have KX2 := Lib.hid (KX1.out.after hbc)
        have RA2 := Lib.hid (RA1.out.below hbc).lt
        have RT2 := Lib.hid (RT1.out.below hbc).lt
        clear hb hbc HB1 KX1 RA1 RT1 fKX0 fKX1 fKX2 qKX
        obtain ⟨fKX0, fKX1, fKX2⟩ := KX2.out.cells3
        have qKX := KX2.out.lt
        go_wp2_with fail
        refine (invert_no x0 y0 A0 A1 xs0.length c0 c1 xs1.length _ HK.out).mono ?_
        rintro e w3 ⟨B2, d2, rfl, -, -, -, -, hb⟩
        have hbc := hb
        have HB3 := Lib.hid (below_then HB2.out hbc (Nat.le_refl _))
        have KX3 := Lib.hid (KX2.out.after hbc)
        have RA3 := Lib.hid (RA2.out.below hbc).lt
        have RT3 := Lib.hid (RT2.out.below hbc).lt
        clear hb hbc HB2 KX2 RA2 RT2 fKX0 fKX1 fKX2 qKX
        obtain ⟨fKX0, fKX1, fKX2⟩ := KX3.out.cells3
        have qKX := KX3.out.lt
        go_wp2_with fail
        refine (check_any _ _ _ _ _ _ _ _ HK.out).mono ?_
        rintro e w4 ⟨rfl, hb⟩
        have hbc : Below w3.heap.size w3 w4 := ((Below.refl _ _).alloc (Nat.le_refl _) _).trans (hb.mono (by simp; try omega))
        have HB4 := Lib.hid (below_then HB3.out hbc (Nat.le_refl _))
        have KX4 := Lib.hid (KX3.out.after hbc)
        have RA4 := Lib.hid (RA3.out.below hbc).lt
        have RT4 := Lib.hid (RT3.out.below hbc).lt
        clear hb hbc HB3 KX3 RA3 RT3 fKX0 fKX1 fKX2 qKX
        obtain ⟨fKX0, fKX1, fKX2⟩ := KX4.out.cells3
        have qKX := KX4.out.lt
        go_wp2_with fail
        refine (alive_any _).mono ?_
        rintro e w5 ⟨rfl, hb⟩
        have hbc := hb
        have HB5 := Lib.hid (below_then HB4.out hbc (Nat.le_refl _))
        have KX5 := Lib.hid (KX4.out.after hbc)
        have RA5 := Lib.hid (RA4.out.below hbc).lt
        have RT5 := Lib.hid (RT4.out.below hbc).lt
        clear hb hbc HB4 KX4 RA4 RT4 fKX0 fKX1 fKX2 qKX
        obtain ⟨fKX0, fKX1, fKX2⟩ := KX5.out.cells3
        have qKX := KX5.out.lt
        go_wp2_with fail
        go_ret
        exact ⟨rfl, HB5.out⟩
      · obtain ⟨i, d, rfl, rfl, hid⟩ := checkB_nat (by omega) hk
        have HK := Lib.hid (checkB_ok hid (by omega))
        clear hk
        obtain ⟨r1, H1⟩ : ∃ r1, Hid (xs1.take i ++ xs0 ++ xs1.drop (i + d) = r1) := ⟨_, rfl⟩
        obtain ⟨r2, H2⟩ : ∃ r2, Hid ((xs1.drop i).take d = r2) := ⟨_, rfl⟩
        have hl1 : r1.length + d = xs1.length + xs0.length := by rw [← H1.out]; simp; omega
        have HL2 : Hid (r2.length = d) := by show _ = _; rw [← H2.out]; simp; omega
        have U1 : Hid (r1.take i ++ r2 ++ r1.drop (i + xs0.length) = xs1) := by show _ = _; rw [← H1.out, ← H2.out]; exact undo_text xs1 xs0 i d hid
        have U2 : Hid ((r1.drop i).take xs0.length = xs0) := by show _ = _; rw [← H1.out]; exact undo_ins xs1 xs0 i d hid
        have h3 : i + xs0.length ≤ r1.length := by omega
        have LX : Hid (xs0.length ≤ maxLen) := Nat.le_trans hc0 hm0
        have LT : Hid (xs1.length ≤ maxLen) := Nat.le_trans hc1 hm1
        clear hm0 hm1
        refine (apply_ok i d A0 A1 c0 c1 _ xs0 xs1 r1 _ RA1.out RT1.out (Nat.le_refl _) hc1 hid (by omega) H1.out).mono ?_
        rintro e w2 ⟨B1, d1, rfl, hd1, -, hr1, -, hb⟩
        have hbc := hb
        have HB2 := Lib.hid (below_then HB1.out hbc (Nat.le_refl _))
        have KX2 := Lib.hid (KX1.out.after hbc)
        have RA2 := Lib.hid (RA1.out.below hbc).lt
        have RT2 := Lib.hid (RT1.out.below hbc).lt
        have R12 := Lib.hid hr1
        clear hb hbc HB1 KX1 RA1 RT1 fKX0 fKX1 fKX2 qKX
        clear hr1
        obtain ⟨fKX0, fKX1, fKX2⟩ := KX2.out.cells3
        have qKX := KX2.out.lt
        go_wp2_with fail
        refine (invert_ok i d A0 A1 xs0.length c0 c1 _ xs1 r2 _ RT2.out (Nat.le_refl _) hc1 hid (by omega) H2.out).mono ?_
        rintro e w3 ⟨B2, d2, rfl, -, -, hr2, -, hb⟩
        have hbc := hb
        have HB3 := Lib.hid (below_then HB2.out hbc (Nat.le_refl _))
        have KX3 := Lib.hid (KX2.out.after hbc)
        have RA3 := Lib.hid (RA2.out.below hbc).lt
        have RT3 := Lib.hid (RT2.out.below hbc).lt
        have R13 := Lib.hid (R12.out.below hbc).lt
        have R23 := Lib.hid hr2
        clear hb hbc HB2 KX2 RA2 RT2 R12 fKX0 fKX1 fKX2 qKX
        clear hr2
        obtain ⟨fKX0, fKX1, fKX2⟩ := KX3.out.cells3
        have qKX := KX3.out.lt
        go_wp2_with fail
        have jM1 := (Blk.new w3 24 #[.int .i64 i, .int .i64 xs0.length, .slice B2 r2.length d2])
        refine (check_any _ _ _ _ _ _ _ _ HK.out).mono ?_
        rintro e w4 ⟨rfl, hb⟩
        have hbc : Below w3.heap.size w3 w4 := ((Below.refl _ _).alloc (Nat.le_refl _) _).trans (hb.mono (by simp; try omega))
        have HB4 := Lib.hid (below_then HB3.out hbc (Nat.le_refl _))
        have KX4 := Lib.hid (KX3.out.after hbc)
        have M14 := Lib.hid (jM1.after hb)
        have RA4 := Lib.hid (RA3.out.below hbc).lt
        have RT4 := Lib.hid (RT3.out.below hbc).lt
        have R14 := Lib.hid (R13.out.below hbc).lt
        have R24 := Lib.hid (R23.out.below hbc).lt
        clear hb hbc HB3 KX3 jM1 RA3 RT3 R13 R23 fKX0 fKX1 fKX2 qKX
        obtain ⟨fKX0, fKX1, fKX2⟩ := KX4.out.cells3
        have qKX := KX4.out.lt
        obtain ⟨fM10, fM11, fM12⟩ := M14.out.cells3
        have qM1 := M14.out.lt
        go_wp2_with fail
        refine (apply_ok i xs0.length B2 B1 d2 d1 _ r2 r1 xs1 _ R24.out R14.out (Nat.le_refl _) hd1 h3 (by have := HL2.out; omega) U1.out).mono ?_
        rintro e w5 ⟨B3, d3, rfl, -, -, hr3, -, hb⟩
        have hbc := hb
        have HB5 := Lib.hid (below_then HB4.out hbc (Nat.le_refl _))
        have KX5 := Lib.hid (KX4.out.after hbc)
        have M15 := Lib.hid (M14.out.after hbc)
        have RA5 := Lib.hid (RA4.out.below hbc).lt
        have RT5 := Lib.hid (RT4.out.below hbc).lt
        have R15 := Lib.hid (R14.out.below hbc).lt
        have R25 := Lib.hid (R24.out.below hbc).lt
        have R35 := Lib.hid hr3
        clear hb hbc HB4 KX4 M14 RA4 RT4 R14 R24 fKX0 fKX1 fKX2 qKX fM10 fM11 fM12 qM1
        clear hr3
        obtain ⟨fKX0, fKX1, fKX2⟩ := KX5.out.cells3
        have qKX := KX5.out.lt
        obtain ⟨fM10, fM11, fM12⟩ := M15.out.cells3
        have qM1 := M15.out.lt
        go_wp2_with fail
        refine (invert_ok i xs0.length B2 B1 r2.length d2 d1 _ r1 xs0 _ R15.out (Nat.le_refl _) hd1 h3 (by omega) U2.out).mono ?_
        rintro e w6 ⟨B4, d4, rfl, -, -, hr4, -, hb⟩
        have hbc := hb
        have HB6 := Lib.hid (below_then HB5.out hbc (Nat.le_refl _))
        have KX6 := Lib.hid (KX5.out.after hbc)
        have M16 := Lib.hid (M15.out.after hbc)
        have RA6 := Lib.hid (RA5.out.below hbc).lt
        have RT6 := Lib.hid (RT5.out.below hbc).lt
        have R16 := Lib.hid (R15.out.below hbc).lt
        have R26 := Lib.hid (R25.out.below hbc).lt
        have R36 := Lib.hid (R35.out.below hbc).lt
        have R46 := Lib.hid hr4
        clear hb hbc HB5 KX5 M15 RA5 RT5 R15 R25 R35 fKX0 fKX1 fKX2 qKX fM10 fM11 fM12 qM1
        clear hr4
        obtain ⟨fKX0, fKX1, fKX2⟩ := KX6.out.cells3
        have qKX := KX6.out.lt
        obtain ⟨fM10, fM11, fM12⟩ := M16.out.cells3
        have qM1 := M16.out.lt
        go_wp2_with fail
        have jM2 := (Blk.new w6 24 #[.int .i64 i, .int .i64 r2.length, .slice B4 xs0.length d4])
        refine (equal_below B3 A1 d3 c1 _ xs1 xs1 _ ((R36.out.below ((Below.refl _ _).alloc (Nat.le_refl _) _)).lt) ((RT6.out.below ((Below.refl _ _).alloc (Nat.le_refl _) _)).lt) LT.out LT.out).mono ?_
        rintro e w7 ⟨rfl, hb⟩
        have hbc : Below w6.heap.size w6 w7 := ((Below.refl _ _).alloc (Nat.le_refl _) _).trans (hb.mono (by simp; try omega))
        have HB7 := Lib.hid (below_then HB6.out hbc (Nat.le_refl _))
        have KX7 := Lib.hid (KX6.out.after hbc)
        have M17 := Lib.hid (M16.out.after hbc)
        have M27 := Lib.hid (jM2.after hb)
        have RA7 := Lib.hid (RA6.out.below hbc).lt
        have RT7 := Lib.hid (RT6.out.below hbc).lt
        have R17 := Lib.hid (R16.out.below hbc).lt
        have R27 := Lib.hid (R26.out.below hbc).lt
        have R37 := Lib.hid (R36.out.below hbc).lt
        have R47 := Lib.hid (R46.out.below hbc).lt
        clear hb hbc HB6 KX6 M16 jM2 RA6 RT6 R16 R26 R36 R46 fKX0 fKX1 fKX2 qKX fM10 fM11 fM12 qM1
        have hz : (cmpL xs1 xs1 == 0) = true := by rw [cmpL_refl]; rfl
        have hz2 : (r2.length : Int) = (d : Int) := by have := HL2.out; omega
        obtain ⟨fKX0, fKX1, fKX2⟩ := KX7.out.cells3
        have qKX := KX7.out.lt
        obtain ⟨fM10, fM11, fM12⟩ := M17.out.cells3
        have qM1 := M17.out.lt
        obtain ⟨fM20, fM21, fM22⟩ := M27.out.cells3
        have qM2 := M27.out.lt
        go_wp2_with fail
        refine (same_eq i d B4 A0 d4 c0 _ xs0 xs0 _ R47.out RA7.out (Nat.le_refl _) LX.out LX.out true (by simp)).mono ?_
        rintro e w8 ⟨rfl, hb⟩
        have hbc := hb
        have HB8 := Lib.hid (below_then HB7.out hbc (Nat.le_refl _))
        have KX8 := Lib.hid (KX7.out.after hbc)
        have M18 := Lib.hid (M17.out.after hbc)
        have M28 := Lib.hid (M27.out.after hbc)
        have RA8 := Lib.hid (RA7.out.below hbc).lt
        have RT8 := Lib.hid (RT7.out.below hbc).lt
        have R18 := Lib.hid (R17.out.below hbc).lt
        have R28 := Lib.hid (R27.out.below hbc).lt
        have R38 := Lib.hid (R37.out.below hbc).lt
        have R48 := Lib.hid (R47.out.below hbc).lt
        clear hb hbc HB7 KX7 M17 M27 RA7 RT7 R17 R27 R37 R47 fKX0 fKX1 fKX2 qKX fM10 fM11 fM12 qM1 fM20 fM21 fM22 qM2
        have hz3 : ((r1.length : Int) == (xs1.length : Int) - (d : Int) + (xs0.length : Int)) = true := by rw [beq_iff_eq]; omega
        obtain ⟨fKX0, fKX1, fKX2⟩ := KX8.out.cells3
        have qKX := KX8.out.lt
        obtain ⟨fM10, fM11, fM12⟩ := M18.out.cells3
        have qM1 := M18.out.lt
        obtain ⟨fM20, fM21, fM22⟩ := M28.out.cells3
        have qM2 := M28.out.lt
        go_wp2_with fail
        refine (alive_any _).mono ?_
        rintro e w9 ⟨rfl, hb⟩
        have hbc := hb
        have HB9 := Lib.hid (below_then HB8.out hbc (Nat.le_refl _))
        have KX9 := Lib.hid (KX8.out.after hbc)
        have M19 := Lib.hid (M18.out.after hbc)
        have M29 := Lib.hid (M28.out.after hbc)
        have RA9 := Lib.hid (RA8.out.below hbc).lt
        have RT9 := Lib.hid (RT8.out.below hbc).lt
        have R19 := Lib.hid (R18.out.below hbc).lt
        have R29 := Lib.hid (R28.out.below hbc).lt
        have R39 := Lib.hid (R38.out.below hbc).lt
        have R49 := Lib.hid (R48.out.below hbc).lt
        clear hb hbc HB8 KX8 M18 M28 RA8 RT8 R18 R28 R38 R48 fKX0 fKX1 fKX2 qKX fM10 fM11 fM12 qM1 fM20 fM21 fM22 qM2
        obtain ⟨fKX0, fKX1, fKX2⟩ := KX9.out.cells3
        have qKX := KX9.out.lt
        obtain ⟨fM10, fM11, fM12⟩ := M19.out.cells3
        have qM1 := M19.out.lt
        obtain ⟨fM20, fM21, fM22⟩ := M29.out.cells3
        have qM2 := M29.out.lt
        go_wp2_with fail
        go_ret
        exact ⟨rfl, HB9.out⟩
theorem own : ownKnob Try.prog.godebug = none := by kernel_rfl
theorem laidOut : laidOutB Try.prog = true := by kernel_rfl
set_option maxRecDepth 100000 in
theorem lifted (os : Os) (started : os.Started) (H : Type) (enc : TypeId × Value → H) :
    ReturnsInHanded {} Try.checked os 11 .any (Rows.editsUndoesSpec.pre6 enc Try.prog Try.f11 Rows.editsUndoesRow.domain false) (Rows.editsUndoesSpec.post enc Try.prog Try.f11 false true false false) := by
  refine returnsInHanded_of_change (C := Try.checked) own started (by kernel_rfl) Try.func11
    (ChangeSpec.witness6 (enc := enc) (C := Try.checked) false ⟨#[], #[.agg #[.int .i64 0, .int .i64 0, .slice none 0 0], .slice none 0 0], []⟩ 8 (by kernel_rfl) (by kernel_rfl) (by kernel_rfl) (by kernel_rfl)) ?_
  intro W base args ds gs before hval0 hW hcnd _
  have hval : ∀ (j : Nat) t v, Try.f11.params[j]? = some t → args[j]? = some v → Value.okWide Try.prog W .any base t v := hval0
  have hW' := hW
  obtain ⟨p, q, hA0, hV, rfl, hfz, hnd⟩ := hW
  have hA : DataW.TrodAll enc Try.prog W 0 (fun _ => true) true Try.f11.params.toList args.toList ds p := hA0
  rw [Try.params11] at hA hval
  obtain ⟨v0, v1, d0, d1, p0, p1, rfl, rfl, rfl, h0, h1⟩ := trodAll_two hA
  obtain ⟨rfl, rfl⟩ := trodVars_none hV
  obtain ⟨a00, a01, a02, y00, y01, y02, n0, rfl, rfl, rfl, g00, g01, g02⟩ := open_agg3 Try.underlying24 (by kernel_rfl) (by kernel_rfl) (hval 0 24 v0 rfl rfl) h0
  obtain ⟨x0, hx0, -, wx0⟩ := DataW.trod_int Try.underlying3 g00
  obtain ⟨z0, hz0, -, wz0⟩ := DataW.trod_int Try.underlying3 g01
  obtain ⟨A0, c0, xs0, rfl, hc0, hm0, hR0, hwf0⟩ := open_row Try.underlying22 Try.underlying3 (by kernel_rfl) g02
  injection hx0 with hx0
  injection hz0 with hz0
  subst hx0 hz0
  obtain ⟨ad1, le1, ca1, rfl⟩ := okWide_slice Try.underlying22 (hval 1 22 v1 rfl rfl)
  obtain ⟨fu1, hf1⟩ := h1
  obtain ⟨A1, c1, xs1, hv1, hc1, hm1, hR1, hwf1⟩ := open_row (v := .slice ad1 le1 ca1) Try.underlying22 Try.underlying3 (by kernel_rfl) hf1
  injection hv1 with ea1 eb1 ec1
  subst ea1 eb1 ec1
  refine (walk W x0 z0 A0 c0 xs0 (wf_i64 wx0) (wf_i64 wz0) hc0 hm0 hR0 ad1 ca1 xs1 hc1 hm1 hR1 (fun n hn => wf_i64 (hwf1 n hn))).mono fun e W' ⟨he, hb⟩ => ⟨_, he, ?_⟩
  exact law_post laidOut (by rw [Try.params11]; exact of_decide_eq_true (by kernel_rfl)) rfl rfl Try.underlying4 hW' rfl hb
theorem holds : Rows.EditsUndoesSaid :=
  OpenClaim.holds_of_wide 11 Try.f11 rfl rfl rfl rfl rfl rfl rfl ⟨rfl, rfl, rfl, rfl, rfl⟩ rfl rfl rfl rfl rfl (by kernel_rfl) Try.func11 (by kernel_rfl)
    (of_decide_eq_true (by kernel_rfl)) (by unfold Func.isWrapper; first | (rw [if_pos (by decide +kernel)]; kernel_rfl) | (rw [if_neg (by decide +kernel)]; exact ⟨rfl, rfl⟩))
    (fun os started H enc _ => lifted os started H enc)
end Go.Proofs.Ytmiebgejmiadlaa.LUndoes
namespace Go.Proofs.Ytmiebgejmiadlaa
theorem editsUndoes_holds : Rows.EditsUndoesSaid := LUndoes.holds
end Go.Proofs.Ytmiebgejmiadlaa
