/-
  EditsTwice: for every input the law returns true, and its arguments read as before. No condition.
-/
import Derived.Test.YtmiebgejmiadlaaRows
import Derived.Test.YtmiebgejmiadlaaEd9
import Derived.Test.YtmiebgejmiadlaaEd7
import Derived.Test.YtmiebgejmiadlaaLift
import Derived.Test.YtmiebgejmiadlaaSeq
import Derived.Test.YtmiebgejmiadlaaEdP
namespace Go.Proofs.Ytmiebgejmiadlaa.LTwice
open Go.ChangeShapes Go.WideShapes Go.ChangeAt Go.RowKit Go.UtYtmiebgejmiadlaa Go.Joins
set_option maxHeartbeats 2000000 in
theorem walk (w : World) (x0 y0 : Int) (A0 : Option Addr) (c0 : Nat) (xs0 : List Int) (hx0 : -9223372036854775808 ≤ x0 ∧ x0 ≤ 9223372036854775807) (hy0 : -9223372036854775808 ≤ y0 ∧ y0 ≤ 9223372036854775807) (hc0 : xs0.length ≤ c0) (hm0 : c0 ≤ maxLen) (hR0 : Row w w.heap.size A0 (ints xs0)) (x1 y1 : Int) (A1 : Option Addr) (c1 : Nat) (xs1 : List Int) (hx1 : -9223372036854775808 ≤ x1 ∧ x1 ≤ 9223372036854775807) (hy1 : -9223372036854775808 ≤ y1 ∧ y1 ≤ 9223372036854775807) (hc1 : xs1.length ≤ c1) (hm1 : c1 ≤ maxLen) (hR1 : Row w w.heap.size A1 (ints xs1)) (A2 : Option Addr) (c2 : Nat) (xs2 : List Int) (hc2 : xs2.length ≤ c2) (hm2 : c2 ≤ maxLen) (hR2 : Row w w.heap.size A2 (ints xs2)) (hw2 : ∀ n ∈ xs2, -9223372036854775808 ≤ n ∧ n ≤ 9223372036854775807) :
    Calls Try.prog 8 #[.agg #[.int .i64 x0, .int .i64 y0, .slice A0 xs0.length c0], .agg #[.int .i64 x1, .int .i64 y1, .slice A1 xs1.length c1], .slice A2 xs2.length c2] w fun e w' => e = .returned (.bool true) ∧ Below w.heap.size w w' := by
  have RA := Lib.hid hR0
  have RF := Lib.hid hR1
  have RT := Lib.hid hR2
  clear hR0 hR1 hR2 hw2
  cases hd : decide ((xs0.length : Int) ≤ 40) with
  | false =>
    have HD0 := Lib.hid hd
    clear hd
    go_enter Try.func8, Try.ntmps8
    go_wp2_with fail
    have jKX := ((Blk.new w 24 #[.int .i64 x0, .int .i64 y0, .slice A0 xs0.length c0]).alloc (.cells #[.int .i64 x1, .int .i64 y1, .slice A1 xs1.length c1] 24))
    have jKY := (Blk.at_new (w := w.alloc (.cells #[.int .i64 x0, .int .i64 y0, .slice A0 xs0.length c0] 24)) (g := w.heap.size + 1) (t := 24) (cs := #[.int .i64 x1, .int .i64 y1, .slice A1 xs1.length c1]) (by simp))
    refine (small_any _ _ _ _ _ _ _ HD0.out).mono ?_
    rintro e w1 ⟨rfl, hb⟩
    have hbc : Below w.heap.size w w1 := (((Below.refl _ _).alloc (Nat.le_refl _) _).alloc (by simp; try omega) _).trans (hb.mono (by simp; try omega))
    have HB1 := Lib.hid hbc
    have KX1 := Lib.hid (jKX.after hb)
    have KY1 := Lib.hid (jKY.after hb)
    have RA1 := Lib.hid (RA.out.below hbc).lt
    have RF1 := Lib.hid (RF.out.below hbc).lt
    have RT1 := Lib.hid (RT.out.below hbc).lt
    clear hb hbc jKX jKY RA RF RT 
    obtain ⟨fKX0, fKX1, fKX2⟩ := KX1.out.cells3
    have qKX := KX1.out.lt
    obtain ⟨fKY0, fKY1, fKY2⟩ := KY1.out.cells3
    have qKY := KY1.out.lt
    go_wp2_with fail
    go_wp2_with fail
    refine (alive_any _).mono ?_
    rintro e w2 ⟨rfl, hb⟩
    have hbc := hb
    have HB2 := Lib.hid (below_then HB1.out hbc (Nat.le_refl _))
    have KX2 := Lib.hid (KX1.out.after hbc)
    have KY2 := Lib.hid (KY1.out.after hbc)
    have RA2 := Lib.hid (RA1.out.below hbc).lt
    have RF2 := Lib.hid (RF1.out.below hbc).lt
    have RT2 := Lib.hid (RT1.out.below hbc).lt
    clear hb hbc HB1 KX1 KY1 RA1 RF1 RT1 fKX0 fKX1 fKX2 qKX fKY0 fKY1 fKY2 qKY
    obtain ⟨fKX0, fKX1, fKX2⟩ := KX2.out.cells3
    have qKX := KX2.out.lt
    obtain ⟨fKY0, fKY1, fKY2⟩ := KY2.out.cells3
    have qKY := KY2.out.lt
    go_wp2_with fail
    go_ret
    exact ⟨rfl, HB2.out⟩
  | true =>
    have l0 : xs0.length ≤ 40 := by have := of_decide_eq_true hd; omega
    have HD0 := Lib.hid hd
    clear hd
    cases hd : decide ((xs1.length : Int) ≤ 40) with
    | false =>
      have HD1 := Lib.hid hd
      clear hd
      go_enter Try.func8, Try.ntmps8
      go_wp2_with fail
      have jKX := ((Blk.new w 24 #[.int .i64 x0, .int .i64 y0, .slice A0 xs0.length c0]).alloc (.cells #[.int .i64 x1, .int .i64 y1, .slice A1 xs1.length c1] 24))
      have jKY := (Blk.at_new (w := w.alloc (.cells #[.int .i64 x0, .int .i64 y0, .slice A0 xs0.length c0] 24)) (g := w.heap.size + 1) (t := 24) (cs := #[.int .i64 x1, .int .i64 y1, .slice A1 xs1.length c1]) (by simp))
      refine (small_any _ _ _ _ _ _ _ HD0.out).mono ?_
      rintro e w1 ⟨rfl, hb⟩
      have hbc : Below w.heap.size w w1 := (((Below.refl _ _).alloc (Nat.le_refl _) _).alloc (by simp; try omega) _).trans (hb.mono (by simp; try omega))
      have HB1 := Lib.hid hbc
      have KX1 := Lib.hid (jKX.after hb)
      have KY1 := Lib.hid (jKY.after hb)
      have RA1 := Lib.hid (RA.out.below hbc).lt
      have RF1 := Lib.hid (RF.out.below hbc).lt
      have RT1 := Lib.hid (RT.out.below hbc).lt
      clear hb hbc jKX jKY RA RF RT 
      obtain ⟨fKX0, fKX1, fKX2⟩ := KX1.out.cells3
      have qKX := KX1.out.lt
      obtain ⟨fKY0, fKY1, fKY2⟩ := KY1.out.cells3
      have qKY := KY1.out.lt
      go_wp2_with fail
      refine (small_any _ _ _ _ _ _ _ HD1.out).mono ?_
      rintro e w2 ⟨rfl, hb⟩
      have hbc := hb
      have HB2 := Lib.hid (below_then HB1.out hbc (Nat.le_refl _))
      have KX2 := Lib.hid (KX1.out.after hbc)
      have KY2 := Lib.hid (KY1.out.after hbc)
      have RA2 := Lib.hid (RA1.out.below hbc).lt
      have RF2 := Lib.hid (RF1.out.below hbc).lt
      have RT2 := Lib.hid (RT1.out.below hbc).lt
      clear hb hbc HB1 KX1 KY1 RA1 RF1 RT1 fKX0 fKX1 fKX2 qKX fKY0 fKY1 fKY2 qKY
      obtain ⟨fKX0, fKX1, fKX2⟩ := KX2.out.cells3
      have qKX := KX2.out.lt
      obtain ⟨fKY0, fKY1, fKY2⟩ := KY2.out.cells3
      have qKY := KY2.out.lt
      go_wp2_with fail
      refine (alive_any _).mono ?_
      rintro e w3 ⟨rfl, hb⟩
      have hbc := hb
      have HB3 := Lib.hid (below_then HB2.out hbc (Nat.le_refl _))
      have KX3 := Lib.hid (KX2.out.after hbc)
      have KY3 := Lib.hid (KY2.out.after hbc)
      have RA3 := Lib.hid (RA2.out.below hbc).lt
      have RF3 := Lib.hid (RF2.out.below hbc).lt
      have RT3 := Lib.hid (RT2.out.below hbc).lt
      clear hb hbc HB2 KX2 KY2 RA2 RF2 RT2 fKX0 fKX1 fKX2 qKX fKY0 fKY1 fKY2 qKY
      obtain ⟨fKX0, fKX1, fKX2⟩ := KX3.out.cells3
      have qKX := KX3.out.lt
      obtain ⟨fKY0, fKY1, fKY2⟩ := KY3.out.cells3
      have qKY := KY3.out.lt
      go_wp2_with fail
      go_ret
      exact ⟨rfl, HB3.out⟩
    | true =>
      have l1 : xs1.length ≤ 40 := by have := of_decide_eq_true hd; omega
      have HD1 := Lib.hid hd
      clear hd
      cases hd : decide ((xs2.length : Int) ≤ 60) with
      | false =>
        have HD2 := Lib.hid hd
        clear hd
        go_enter Try.func8, Try.ntmps8
        go_wp2_with fail
        have jKX := ((Blk.new w 24 #[.int .i64 x0, .int .i64 y0, .slice A0 xs0.length c0]).alloc (.cells #[.int .i64 x1, .int .i64 y1, .slice A1 xs1.length c1] 24))
        have jKY := (Blk.at_new (w := w.alloc (.cells #[.int .i64 x0, .int .i64 y0, .slice A0 xs0.length c0] 24)) (g := w.heap.size + 1) (t := 24) (cs := #[.int .i64 x1, .int .i64 y1, .slice A1 xs1.length c1]) (by simp))
        refine (small_any _ _ _ _ _ _ _ HD0.out).mono ?_
        rintro e w1 ⟨rfl, hb⟩
        have hbc : Below w.heap.size w w1 := (((Below.refl _ _).alloc (Nat.le_refl _) _).alloc (by simp; try omega) _).trans (hb.mono (by simp; try omega))
        have HB1 := Lib.hid hbc
        have KX1 := Lib.hid (jKX.after hb)
        have KY1 := Lib.hid (jKY.after hb)
        have RA1 := Lib.hid (RA.out.below hbc).lt
        have RF1 := Lib.hid (RF.out.below hbc).lt
        have RT1 := Lib.hid (RT.out.below hbc).lt
        clear hb hbc jKX jKY RA RF RT 
        obtain ⟨fKX0, fKX1, fKX2⟩ := KX1.out.cells3
        have qKX := KX1.out.lt
        obtain ⟨fKY0, fKY1, fKY2⟩ := KY1.out.cells3
        have qKY := KY1.out.lt
        go_wp2_with fail
        refine (small_any _ _ _ _ _ _ _ HD1.out).mono ?_
        rintro e w2 ⟨rfl, hb⟩
        have hbc := hb
        have HB2 := Lib.hid (below_then HB1.out hbc (Nat.le_refl _))
        have KX2 := Lib.hid (KX1.out.after hbc)
        have KY2 := Lib.hid (KY1.out.after hbc)
        have RA2 := Lib.hid (RA1.out.below hbc).lt
        have RF2 := Lib.hid (RF1.out.below hbc).lt
        have RT2 := Lib.hid (RT1.out.below hbc).lt
        clear hb hbc HB1 KX1 KY1 RA1 RF1 RT1 fKX0 fKX1 fKX2 qKX fKY0 fKY1 fKY2 qKY
        obtain ⟨fKX0, fKX1, fKX2⟩ := KX2.out.cells3
        have qKX := KX2.out.lt
        obtain ⟨fKY0, fKY1, fKY2⟩ := KY2.out.cells3
        have qKY := KY2.out.lt
        go_wp2_with fail
        refine (few_any _ _ _ _ _ HD2.out).mono ?_
        rintro e w' ⟨rfl, rfl⟩
        go_wp2_with fail
        refine (alive_any _).mono ?_
        rintro e w3 ⟨rfl, hb⟩
        have hbc := hb
        have HB3 := Lib.hid (below_then HB2.out hbc (Nat.le_refl _))
        have KX3 := Lib.hid (KX2.out.after hbc)
        have KY3 := Lib.hid (KY2.out.after hbc)
        have RA3 := Lib.hid (RA2.out.below hbc).lt
        have RF3 := Lib.hid (RF2.out.below hbc).lt
        have RT3 := Lib.hid (RT2.out.below hbc).lt
        clear hb hbc HB2 KX2 KY2 RA2 RF2 RT2 fKX0 fKX1 fKX2 qKX fKY0 fKY1 fKY2 qKY
        obtain ⟨fKX0, fKX1, fKX2⟩ := KX3.out.cells3
        have qKX := KX3.out.lt
        obtain ⟨fKY0, fKY1, fKY2⟩ := KY3.out.cells3
        have qKY := KY3.out.lt
        go_wp2_with fail
        go_ret
        exact ⟨rfl, HB3.out⟩
      | true =>
        have l2 : xs2.length ≤ 60 := by have := of_decide_eq_true hd; omega
        have HD2 := Lib.hid hd
        clear hd
        by_cases hM : mergeable x0 y0 x1 y1 xs0.length
        · by_cases hk : checkB x0 y0 xs2.length = 1
          · have HK := Lib.hid hk
            clear hk
            obtain ⟨u, v, r, t, HZ⟩ : ∃ u v r t, Hid (merZ x0 y0 x1 y1 xs0 xs1 = (u, v, r, t)) := ⟨_, _, _, _, rfl⟩
            have ht : t = true := by have := HZ.out; unfold merZ at this; rw [if_pos hM] at this; injection this with _ h; injection h with _ h; injection h with _ h; exact h.symm
            subst ht
            clear hM
            go_enter Try.func8, Try.ntmps8
            go_wp2_with fail
            have jKX := ((Blk.new w 24 #[.int .i64 x0, .int .i64 y0, .slice A0 xs0.length c0]).alloc (.cells #[.int .i64 x1, .int .i64 y1, .slice A1 xs1.length c1] 24))
            have jKY := (Blk.at_new (w := w.alloc (.cells #[.int .i64 x0, .int .i64 y0, .slice A0 xs0.length c0] 24)) (g := w.heap.size + 1) (t := 24) (cs := #[.int .i64 x1, .int .i64 y1, .slice A1 xs1.length c1]) (by simp))
            refine (small_any _ _ _ _ _ _ _ HD0.out).mono ?_
            rintro e w1 ⟨rfl, hb⟩
            have hbc : Below w.heap.size w w1 := (((Below.refl _ _).alloc (Nat.le_refl _) _).alloc (by simp; try omega) _).trans (hb.mono (by simp; try omega))
            have HB1 := Lib.hid hbc
            have KX1 := Lib.hid (jKX.after hb)
            have KY1 := Lib.hid (jKY.after hb)
            have RA1 := Lib.hid (RA.out.below hbc).lt
            have RF1 := Lib.hid (RF.out.below hbc).lt
            have RT1 := Lib.hid (RT.out.below hbc).lt
            clear hb hbc jKX jKY RA RF RT 
            obtain ⟨fKX0, fKX1, fKX2⟩ := KX1.out.cells3
            have qKX := KX1.out.lt
            obtain ⟨fKY0, fKY1, fKY2⟩ := KY1.out.cells3
            have qKY := KY1.out.lt
            go_wp2_with fail
            refine (small_any _ _ _ _ _ _ _ HD1.out).mono ?_
            rintro e w2 ⟨rfl, hb⟩
            have hbc := hb
            have HB2 := Lib.hid (below_then HB1.out hbc (Nat.le_refl _))
            have KX2 := Lib.hid (KX1.out.after hbc)
            have KY2 := Lib.hid (KY1.out.after hbc)
            have RA2 := Lib.hid (RA1.out.below hbc).lt
            have RF2 := Lib.hid (RF1.out.below hbc).lt
            have RT2 := Lib.hid (RT1.out.below hbc).lt
            clear hb hbc HB1 KX1 KY1 RA1 RF1 RT1 fKX0 fKX1 fKX2 qKX fKY0 fKY1 fKY2 qKY
            obtain ⟨fKX0, fKX1, fKX2⟩ := KX2.out.cells3
            have qKX := KX2.out.lt
            obtain ⟨fKY0, fKY1, fKY2⟩ := KY2.out.cells3
            have qKY := KY2.out.lt
            go_wp2_with fail
            refine (few_any _ _ _ _ _ HD2.out).mono ?_
            rintro e w' ⟨rfl, rfl⟩
            go_wp2_with fail
            refine (merge_all x0 y0 x1 y1 A0 A1 c0 c1 _ xs0 xs1 _ RA2.out RF2.out (Nat.le_refl _) hc0 (by omega) hx0.2 hx1.2 u v r true HZ.out).mono ?_
            rintro e w3 ⟨B1, d1, rfl, -, -, -, -, hb⟩
            have hbc := hb
            have HB3 := Lib.hid (below_then HB2.out hbc (Nat.le_refl _))
            have KX3 := Lib.hid (KX2.out.after hbc)
            have KY3 := Lib.hid (KY2.out.after hbc)
            have RA3 := Lib.hid (RA2.out.below hbc).lt
            have RF3 := Lib.hid (RF2.out.below hbc).lt
            have RT3 := Lib.hid (RT2.out.below hbc).lt
            clear hb hbc HB2 KX2 KY2 RA2 RF2 RT2 fKX0 fKX1 fKX2 qKX fKY0 fKY1 fKY2 qKY
            obtain ⟨fKX0, fKX1, fKX2⟩ := KX3.out.cells3
            have qKX := KX3.out.lt
            obtain ⟨fKY0, fKY1, fKY2⟩ := KY3.out.cells3
            have qKY := KY3.out.lt
            go_wp2_with fail
            refine (apply_no x0 y0 A0 A2 xs0.length c0 c2 xs2.length _ HK.out).mono ?_
            rintro e w4 ⟨B2, d2, rfl, -, -, -, -, hb⟩
            have hbc : Below w3.heap.size w3 w4 := ((Below.refl _ _).alloc (Nat.le_refl _) _).trans (hb.mono (by simp; try omega))
            have HB4 := Lib.hid (below_then HB3.out hbc (Nat.le_refl _))
            have KX4 := Lib.hid (KX3.out.after hbc)
            have KY4 := Lib.hid (KY3.out.after hbc)
            have RA4 := Lib.hid (RA3.out.below hbc).lt
            have RF4 := Lib.hid (RF3.out.below hbc).lt
            have RT4 := Lib.hid (RT3.out.below hbc).lt
            clear hb hbc HB3 KX3 KY3 RA3 RF3 RT3 fKX0 fKX1 fKX2 qKX fKY0 fKY1 fKY2 qKY
            obtain ⟨fKX0, fKX1, fKX2⟩ := KX4.out.cells3
            have qKX := KX4.out.lt
            obtain ⟨fKY0, fKY1, fKY2⟩ := KY4.out.cells3
            have qKY := KY4.out.lt
            go_wp2_with fail
            refine (alive_any _).mono ?_
            rintro e w5 ⟨rfl, hb⟩
            have hbc := hb
            have HB5 := Lib.hid (below_then HB4.out hbc (Nat.le_refl _))
            have KX5 := Lib.hid (KX4.out.after hbc)
            have KY5 := Lib.hid (KY4.out.after hbc)
            have RA5 := Lib.hid (RA4.out.below hbc).lt
            have RF5 := Lib.hid (RF4.out.below hbc).lt
            have RT5 := Lib.hid (RT4.out.below hbc).lt
            clear hb hbc HB4 KX4 KY4 RA4 RF4 RT4 fKX0 fKX1 fKX2 qKX fKY0 fKY1 fKY2 qKY
            obtain ⟨fKX0, fKX1, fKX2⟩ := KX5.out.cells3
            have qKX := KX5.out.lt
            obtain ⟨fKY0, fKY1, fKY2⟩ := KY5.out.cells3
            have qKY := KY5.out.lt
            go_wp2_with fail
            go_ret
            exact ⟨rfl, HB5.out⟩
          · obtain ⟨i, d, rfl, rfl, hid⟩ := checkB_nat (by omega) hk
            clear hk
            obtain ⟨-, -, e3, e4, e5, e6⟩ := hM
            obtain ⟨v', rfl⟩ := Int.eq_ofNat_of_zero_le e5
            obtain ⟨k, rfl⟩ : ∃ k : Nat, x1 = (i : Int) + k := ⟨(x1 - i).toNat, by omega⟩
            have hkv : k + v' ≤ xs0.length := by omega
            clear e3 e4 e5 e6
            obtain ⟨m, Hm⟩ : ∃ m, Hid (xs0.take k ++ xs1 ++ xs0.drop (k + v') = m) := ⟨_, rfl⟩
            obtain ⟨r1, H1⟩ : ∃ r1, Hid (xs2.take i ++ xs0 ++ xs2.drop (i + d) = r1) := ⟨_, rfl⟩
            obtain ⟨r2, H2⟩ : ∃ r2, Hid (r1.take (i + k) ++ xs1 ++ r1.drop (i + k + v') = r2) := ⟨_, rfl⟩
            have H3 : Hid (xs2.take i ++ m ++ xs2.drop (i + d) = r2) := by show _ = _; rw [← H2.out, ← H1.out, ← Hm.out]; exact (twice_text xs2 xs0 xs1 i d k v' hid hkv).symm
            have l1 : r1.length + d = xs2.length + xs0.length := by rw [← H1.out]; simp; omega
            have l2 : m.length + v' = xs0.length + xs1.length := by rw [← Hm.out]; simp; omega
            have hid2 : (i + k) + v' ≤ r1.length := by omega
            have ecast : ((i + k : Nat) : Int) = (i : Int) + (k : Int) := by omega
            have EC := Lib.hid ecast
            clear ecast
            go_enter Try.func8, Try.ntmps8
            go_wp2_with fail
            have jKX := ((Blk.new w 24 #[.int .i64 (i : Int), .int .i64 (d : Int), .slice A0 xs0.length c0]).alloc (.cells #[.int .i64 ((i : Int) + (k : Int)), .int .i64 (v' : Int), .slice A1 xs1.length c1] 24))
            have jKY := (Blk.at_new (w := w.alloc (.cells #[.int .i64 (i : Int), .int .i64 (d : Int), .slice A0 xs0.length c0] 24)) (g := w.heap.size + 1) (t := 24) (cs := #[.int .i64 ((i : Int) + (k : Int)), .int .i64 (v' : Int), .slice A1 xs1.length c1]) (by simp))
            refine (small_any _ _ _ _ _ _ _ HD0.out).mono ?_
            rintro e w1 ⟨rfl, hb⟩
            have hbc : Below w.heap.size w w1 := (((Below.refl _ _).alloc (Nat.le_refl _) _).alloc (by simp; try omega) _).trans (hb.mono (by simp; try omega))
            have HB1 := Lib.hid hbc
            have KX1 := Lib.hid (jKX.after hb)
            have KY1 := Lib.hid (jKY.after hb)
            have RA1 := Lib.hid (RA.out.below hbc).lt
            have RF1 := Lib.hid (RF.out.below hbc).lt
            have RT1 := Lib.hid (RT.out.below hbc).lt
            clear hb hbc jKX jKY RA RF RT 
            obtain ⟨fKX0, fKX1, fKX2⟩ := KX1.out.cells3
            have qKX := KX1.out.lt
            obtain ⟨fKY0, fKY1, fKY2⟩ := KY1.out.cells3
            have qKY := KY1.out.lt
            go_wp2_with fail
            refine (small_any _ _ _ _ _ _ _ HD1.out).mono ?_
            rintro e w2 ⟨rfl, hb⟩
            have hbc := hb
            have HB2 := Lib.hid (below_then HB1.out hbc (Nat.le_refl _))
            have KX2 := Lib.hid (KX1.out.after hbc)
            have KY2 := Lib.hid (KY1.out.after hbc)
            have RA2 := Lib.hid (RA1.out.below hbc).lt
            have RF2 := Lib.hid (RF1.out.below hbc).lt
            have RT2 := Lib.hid (RT1.out.below hbc).lt
            clear hb hbc HB1 KX1 KY1 RA1 RF1 RT1 fKX0 fKX1 fKX2 qKX fKY0 fKY1 fKY2 qKY
            obtain ⟨fKX0, fKX1, fKX2⟩ := KX2.out.cells3
            have qKX := KX2.out.lt
            obtain ⟨fKY0, fKY1, fKY2⟩ := KY2.out.cells3
            have qKY := KY2.out.lt
            go_wp2_with fail
            refine (few_any _ _ _ _ _ HD2.out).mono ?_
            rintro e w' ⟨rfl, rfl⟩
            go_wp2_with fail
            refine (merge_ok i d k v' A0 A1 c0 c1 _ xs0 xs1 m _ RA2.out RF2.out (Nat.le_refl _) hc0 (by omega) hkv (by omega) Hm.out).mono ?_
            rintro e w3 ⟨B1, d1, rfl, -, -, hr1, -, hb⟩
            have hbc := hb
            have HB3 := Lib.hid (below_then HB2.out hbc (Nat.le_refl _))
            have KX3 := Lib.hid (KX2.out.after hbc)
            have KY3 := Lib.hid (KY2.out.after hbc)
            have RA3 := Lib.hid (RA2.out.below hbc).lt
            have RF3 := Lib.hid (RF2.out.below hbc).lt
            have RT3 := Lib.hid (RT2.out.below hbc).lt
            have R13 := Lib.hid hr1
            clear hb hbc HB2 KX2 KY2 RA2 RF2 RT2 fKX0 fKX1 fKX2 qKX fKY0 fKY1 fKY2 qKY
            clear hr1
            obtain ⟨fKX0, fKX1, fKX2⟩ := KX3.out.cells3
            have qKX := KX3.out.lt
            obtain ⟨fKY0, fKY1, fKY2⟩ := KY3.out.cells3
            have qKY := KY3.out.lt
            go_wp2_with fail
            have jM1 := (Blk.new w3 24 #[.int .i64 i, .int .i64 d, .slice B1 m.length d1])
            refine (apply_ok i d A0 A2 c0 c2 _ xs0 xs2 r1 _ ((RA3.out.below ((Below.refl _ _).alloc (Nat.le_refl _) _)).lt) ((RT3.out.below ((Below.refl _ _).alloc (Nat.le_refl _) _)).lt) (Nat.le_refl _) hc2 hid (by omega) H1.out).mono ?_
            rintro e w4 ⟨B2, d2, rfl, hd2, hm2b, hr2, -, hb⟩
            have hbc : Below w3.heap.size w3 w4 := ((Below.refl _ _).alloc (Nat.le_refl _) _).trans (hb.mono (by simp; try omega))
            have HB4 := Lib.hid (below_then HB3.out hbc (Nat.le_refl _))
            have KX4 := Lib.hid (KX3.out.after hbc)
            have KY4 := Lib.hid (KY3.out.after hbc)
            have M14 := Lib.hid (jM1.after hb)
            have RA4 := Lib.hid (RA3.out.below hbc).lt
            have RF4 := Lib.hid (RF3.out.below hbc).lt
            have RT4 := Lib.hid (RT3.out.below hbc).lt
            have R14 := Lib.hid (R13.out.below hbc).lt
            have R24 := Lib.hid hr2
            clear hb hbc HB3 KX3 KY3 jM1 RA3 RF3 RT3 R13 fKX0 fKX1 fKX2 qKX fKY0 fKY1 fKY2 qKY
            clear hr2
            obtain ⟨fKX0, fKX1, fKX2⟩ := KX4.out.cells3
            have qKX := KX4.out.lt
            obtain ⟨fKY0, fKY1, fKY2⟩ := KY4.out.cells3
            have qKY := KY4.out.lt
            obtain ⟨fM10, fM11, fM12⟩ := M14.out.cells3
            have qM1 := M14.out.lt
            go_wp2_with fail
            have hap := apply_ok (i + k) v' A1 B2 c1 d2 _ xs1 r1 r2 _ RF4.out R24.out (Nat.le_refl _) hd2 hid2 (by omega) H2.out
            rw [EC.out] at hap
            refine (hap).mono ?_
            rintro e w5 ⟨B3, d3, rfl, hd3, hm3, hr3, -, hb⟩
            have hbc := hb
            have HB5 := Lib.hid (below_then HB4.out hbc (Nat.le_refl _))
            have KX5 := Lib.hid (KX4.out.after hbc)
            have KY5 := Lib.hid (KY4.out.after hbc)
            have M15 := Lib.hid (M14.out.after hbc)
            have RA5 := Lib.hid (RA4.out.below hbc).lt
            have RF5 := Lib.hid (RF4.out.below hbc).lt
            have RT5 := Lib.hid (RT4.out.below hbc).lt
            have R15 := Lib.hid (R14.out.below hbc).lt
            have R25 := Lib.hid (R24.out.below hbc).lt
            have R35 := Lib.hid hr3
            clear hb hbc HB4 KX4 KY4 M14 RA4 RF4 RT4 R14 R24 fKX0 fKX1 fKX2 qKX fKY0 fKY1 fKY2 qKY fM10 fM11 fM12 qM1
            clear hr3 hap
            have L3 := Lib.hid (Nat.le_trans hd3 hm3)
            clear hd3 hm3
            obtain ⟨fKX0, fKX1, fKX2⟩ := KX5.out.cells3
            have qKX := KX5.out.lt
            obtain ⟨fKY0, fKY1, fKY2⟩ := KY5.out.cells3
            have qKY := KY5.out.lt
            obtain ⟨fM10, fM11, fM12⟩ := M15.out.cells3
            have qM1 := M15.out.lt
            go_wp2_with fail
            refine (apply_ok i d B1 A2 d1 c2 _ m xs2 r2 _ R15.out RT5.out (Nat.le_refl _) hc2 hid (by omega) H3.out).mono ?_
            rintro e w6 ⟨B4, d4, rfl, -, -, hr4, -, hb⟩
            have hbc := hb
            have HB6 := Lib.hid (below_then HB5.out hbc (Nat.le_refl _))
            have KX6 := Lib.hid (KX5.out.after hbc)
            have KY6 := Lib.hid (KY5.out.after hbc)
            have M16 := Lib.hid (M15.out.after hbc)
            have RA6 := Lib.hid (RA5.out.below hbc).lt
            have RF6 := Lib.hid (RF5.out.below hbc).lt
            have RT6 := Lib.hid (RT5.out.below hbc).lt
            have R16 := Lib.hid (R15.out.below hbc).lt
            have R26 := Lib.hid (R25.out.below hbc).lt
            have R36 := Lib.hid (R35.out.below hbc).lt
            have R46 := Lib.hid hr4
            clear hb hbc HB5 KX5 KY5 M15 RA5 RF5 RT5 R15 R25 R35 fKX0 fKX1 fKX2 qKX fKY0 fKY1 fKY2 qKY fM10 fM11 fM12 qM1
            clear hr4
            obtain ⟨fKX0, fKX1, fKX2⟩ := KX6.out.cells3
            have qKX := KX6.out.lt
            obtain ⟨fKY0, fKY1, fKY2⟩ := KY6.out.cells3
            have qKY := KY6.out.lt
            obtain ⟨fM10, fM11, fM12⟩ := M16.out.cells3
            have qM1 := M16.out.lt
            go_wp2_with fail
            refine (equal_below B3 B4 d3 d4 _ r2 r2 _ R36.out R46.out L3.out L3.out).mono ?_
            rintro e w7 ⟨rfl, hb⟩
            have hbc := hb
            have HB7 := Lib.hid (below_then HB6.out hbc (Nat.le_refl _))
            have KX7 := Lib.hid (KX6.out.after hbc)
            have KY7 := Lib.hid (KY6.out.after hbc)
            have M17 := Lib.hid (M16.out.after hbc)
            have RA7 := Lib.hid (RA6.out.below hbc).lt
            have RF7 := Lib.hid (RF6.out.below hbc).lt
            have RT7 := Lib.hid (RT6.out.below hbc).lt
            have R17 := Lib.hid (R16.out.below hbc).lt
            have R27 := Lib.hid (R26.out.below hbc).lt
            have R37 := Lib.hid (R36.out.below hbc).lt
            have R47 := Lib.hid (R46.out.below hbc).lt
            clear hb hbc HB6 KX6 KY6 M16 RA6 RF6 RT6 R16 R26 R36 R46 fKX0 fKX1 fKX2 qKX fKY0 fKY1 fKY2 qKY fM10 fM11 fM12 qM1
            have hz : (cmpL r2 r2 == 0) = true := by rw [cmpL_refl]; rfl
            obtain ⟨fKX0, fKX1, fKX2⟩ := KX7.out.cells3
            have qKX := KX7.out.lt
            obtain ⟨fKY0, fKY1, fKY2⟩ := KY7.out.cells3
            have qKY := KY7.out.lt
            obtain ⟨fM10, fM11, fM12⟩ := M17.out.cells3
            have qM1 := M17.out.lt
            go_wp2_with fail
            refine (alive_any _).mono ?_
            rintro e w8 ⟨rfl, hb⟩
            have hbc := hb
            have HB8 := Lib.hid (below_then HB7.out hbc (Nat.le_refl _))
            have KX8 := Lib.hid (KX7.out.after hbc)
            have KY8 := Lib.hid (KY7.out.after hbc)
            have M18 := Lib.hid (M17.out.after hbc)
            have RA8 := Lib.hid (RA7.out.below hbc).lt
            have RF8 := Lib.hid (RF7.out.below hbc).lt
            have RT8 := Lib.hid (RT7.out.below hbc).lt
            have R18 := Lib.hid (R17.out.below hbc).lt
            have R28 := Lib.hid (R27.out.below hbc).lt
            have R38 := Lib.hid (R37.out.below hbc).lt
            have R48 := Lib.hid (R47.out.below hbc).lt
            clear hb hbc HB7 KX7 KY7 M17 RA7 RF7 RT7 R17 R27 R37 R47 fKX0 fKX1 fKX2 qKX fKY0 fKY1 fKY2 qKY fM10 fM11 fM12 qM1
            obtain ⟨fKX0, fKX1, fKX2⟩ := KX8.out.cells3
            have qKX := KX8.out.lt
            obtain ⟨fKY0, fKY1, fKY2⟩ := KY8.out.cells3
            have qKY := KY8.out.lt
            obtain ⟨fM10, fM11, fM12⟩ := M18.out.cells3
            have qM1 := M18.out.lt
            go_wp2_with fail
            go_ret
            exact ⟨rfl, HB8.out⟩
        · have HM := Lib.hid hM
          clear hM
          obtain ⟨ap, code, HZ⟩ : ∃ ap code, Hid (appZ x0 y0 xs0 xs2 = (ap, code)) := ⟨_, _, rfl⟩
          go_enter Try.func8, Try.ntmps8
          go_wp2_with fail
          have jKX := ((Blk.new w 24 #[.int .i64 x0, .int .i64 y0, .slice A0 xs0.length c0]).alloc (.cells #[.int .i64 x1, .int .i64 y1, .slice A1 xs1.length c1] 24))
          have jKY := (Blk.at_new (w := w.alloc (.cells #[.int .i64 x0, .int .i64 y0, .slice A0 xs0.length c0] 24)) (g := w.heap.size + 1) (t := 24) (cs := #[.int .i64 x1, .int .i64 y1, .slice A1 xs1.length c1]) (by simp))
          refine (small_any _ _ _ _ _ _ _ HD0.out).mono ?_
          rintro e w1 ⟨rfl, hb⟩
          have hbc : Below w.heap.size w w1 := (((Below.refl _ _).alloc (Nat.le_refl _) _).alloc (by simp; try omega) _).trans (hb.mono (by simp; try omega))
          have HB1 := Lib.hid hbc
          have KX1 := Lib.hid (jKX.after hb)
          have KY1 := Lib.hid (jKY.after hb)
          have RA1 := Lib.hid (RA.out.below hbc).lt
          have RF1 := Lib.hid (RF.out.below hbc).lt
          have RT1 := Lib.hid (RT.out.below hbc).lt
          clear hb hbc jKX jKY RA RF RT 
          obtain ⟨fKX0, fKX1, fKX2⟩ := KX1.out.cells3
          have qKX := KX1.out.lt
          obtain ⟨fKY0, fKY1, fKY2⟩ := KY1.out.cells3
          have qKY := KY1.out.lt
          go_wp2_with fail
          refine (small_any _ _ _ _ _ _ _ HD1.out).mono ?_
          rintro e w2 ⟨rfl, hb⟩
          have hbc := hb
          have HB2 := Lib.hid (below_then HB1.out hbc (Nat.le_refl _))
          have KX2 := Lib.hid (KX1.out.after hbc)
          have KY2 := Lib.hid (KY1.out.after hbc)
          have RA2 := Lib.hid (RA1.out.below hbc).lt
          have RF2 := Lib.hid (RF1.out.below hbc).lt
          have RT2 := Lib.hid (RT1.out.below hbc).lt
          clear hb hbc HB1 KX1 KY1 RA1 RF1 RT1 fKX0 fKX1 fKX2 qKX fKY0 fKY1 fKY2 qKY
          obtain ⟨fKX0, fKX1, fKX2⟩ := KX2.out.cells3
          have qKX := KX2.out.lt
          obtain ⟨fKY0, fKY1, fKY2⟩ := KY2.out.cells3
          have qKY := KY2.out.lt
          go_wp2_with fail
          refine (few_any _ _ _ _ _ HD2.out).mono ?_
          rintro e w' ⟨rfl, rfl⟩
          go_wp2_with fail
          refine (merge_no x0 y0 x1 y1 A0 A1 xs0.length c0 xs1.length c1 _ (by omega) hx0.2 hx1.2 HM.out).mono ?_
          rintro e w3 ⟨B1, d1, rfl, -, -, -, -, hb⟩
          have hbc := hb
          have HB3 := Lib.hid (below_then HB2.out hbc (Nat.le_refl _))
          have KX3 := Lib.hid (KX2.out.after hbc)
          have KY3 := Lib.hid (KY2.out.after hbc)
          have RA3 := Lib.hid (RA2.out.below hbc).lt
          have RF3 := Lib.hid (RF2.out.below hbc).lt
          have RT3 := Lib.hid (RT2.out.below hbc).lt
          clear hb hbc HB2 KX2 KY2 RA2 RF2 RT2 fKX0 fKX1 fKX2 qKX fKY0 fKY1 fKY2 qKY
          obtain ⟨fKX0, fKX1, fKX2⟩ := KX3.out.cells3
          have qKX := KX3.out.lt
          obtain ⟨fKY0, fKY1, fKY2⟩ := KY3.out.cells3
          have qKY := KY3.out.lt
          go_wp2_with fail
          have jM1 := (Blk.new w3 24 #[.int .i64 0, .int .i64 0, .slice B1 0 d1])
          refine (apply_all x0 y0 A0 A2 c0 c2 _ xs0 xs2 _ ((RA3.out.below ((Below.refl _ _).alloc (Nat.le_refl _) _)).lt) ((RT3.out.below ((Below.refl _ _).alloc (Nat.le_refl _) _)).lt) (Nat.le_refl _) hc2 (by omega) ap code HZ.out).mono ?_
          rintro e w4 ⟨B2, d2, rfl, -, -, -, -, hb⟩
          have hbc : Below w3.heap.size w3 w4 := ((Below.refl _ _).alloc (Nat.le_refl _) _).trans (hb.mono (by simp; try omega))
          have HB4 := Lib.hid (below_then HB3.out hbc (Nat.le_refl _))
          have KX4 := Lib.hid (KX3.out.after hbc)
          have KY4 := Lib.hid (KY3.out.after hbc)
          have M14 := Lib.hid (jM1.after hb)
          have RA4 := Lib.hid (RA3.out.below hbc).lt
          have RF4 := Lib.hid (RF3.out.below hbc).lt
          have RT4 := Lib.hid (RT3.out.below hbc).lt
          clear hb hbc HB3 KX3 KY3 jM1 RA3 RF3 RT3 fKX0 fKX1 fKX2 qKX fKY0 fKY1 fKY2 qKY
          obtain ⟨fKX0, fKX1, fKX2⟩ := KX4.out.cells3
          have qKX := KX4.out.lt
          obtain ⟨fKY0, fKY1, fKY2⟩ := KY4.out.cells3
          have qKY := KY4.out.lt
          obtain ⟨fM10, fM11, fM12⟩ := M14.out.cells3
          have qM1 := M14.out.lt
          go_wp2_with fail
          refine (same_eq 0 0 B1 none d1 0 _ [] [] _ Row.nil Row.nil (Nat.le_refl _) (by simp [maxLen]) (by simp [maxLen]) true (by decide)).mono ?_
          rintro e w5 ⟨rfl, hb⟩
          have hbc := hb
          have HB5 := Lib.hid (below_then HB4.out hbc (Nat.le_refl _))
          have KX5 := Lib.hid (KX4.out.after hbc)
          have KY5 := Lib.hid (KY4.out.after hbc)
          have M15 := Lib.hid (M14.out.after hbc)
          have RA5 := Lib.hid (RA4.out.below hbc).lt
          have RF5 := Lib.hid (RF4.out.below hbc).lt
          have RT5 := Lib.hid (RT4.out.below hbc).lt
          clear hb hbc HB4 KX4 KY4 M14 RA4 RF4 RT4 fKX0 fKX1 fKX2 qKX fKY0 fKY1 fKY2 qKY fM10 fM11 fM12 qM1
          obtain ⟨fKX0, fKX1, fKX2⟩ := KX5.out.cells3
          have qKX := KX5.out.lt
          obtain ⟨fKY0, fKY1, fKY2⟩ := KY5.out.cells3
          have qKY := KY5.out.lt
          obtain ⟨fM10, fM11, fM12⟩ := M15.out.cells3
          have qM1 := M15.out.lt
          go_wp2_with fail
          refine (alive_any _).mono ?_
          rintro e w6 ⟨rfl, hb⟩
          have hbc := hb
          have HB6 := Lib.hid (below_then HB5.out hbc (Nat.le_refl _))
          have KX6 := Lib.hid (KX5.out.after hbc)
          have KY6 := Lib.hid (KY5.out.after hbc)
          have M16 := Lib.hid (M15.out.after hbc)
          have RA6 := Lib.hid (RA5.out.below hbc).lt
          have RF6 := Lib.hid (RF5.out.below hbc).lt
          have RT6 := Lib.hid (RT5.out.below hbc).lt
          clear hb hbc HB5 KX5 KY5 M15 RA5 RF5 RT5 fKX0 fKX1 fKX2 qKX fKY0 fKY1 fKY2 qKY fM10 fM11 fM12 qM1
          obtain ⟨fKX0, fKX1, fKX2⟩ := KX6.out.cells3
          have qKX := KX6.out.lt
          obtain ⟨fKY0, fKY1, fKY2⟩ := KY6.out.cells3
          have qKY := KY6.out.lt
          obtain ⟨fM10, fM11, fM12⟩ := M16.out.cells3
          have qM1 := M16.out.lt
          go_wp2_with fail
          go_ret
          exact ⟨rfl, HB6.out⟩
theorem own : ownKnob Try.prog.godebug = none := by kernel_rfl
theorem laidOut : laidOutB Try.prog = true := by kernel_rfl
set_option maxRecDepth 100000 in
theorem lifted (os : Os) (started : os.Started) (H : Type) (enc : TypeId × Value → H) :
    ReturnsInHanded {} Try.checked os 8 .any (Rows.editsTwiceSpec.pre6 enc Try.prog Try.f8 Rows.editsTwiceRow.domain false) (Rows.editsTwiceSpec.post enc Try.prog Try.f8 false true false false) := by
  refine returnsInHanded_of_change (C := Try.checked) own started (by kernel_rfl) Try.func8
    (ChangeSpec.witness6 (enc := enc) (C := Try.checked) false ⟨#[], #[.agg #[.int .i64 0, .int .i64 0, .slice none 0 0], .agg #[.int .i64 0, .int .i64 0, .slice none 0 0], .slice none 0 0], []⟩ 8 (by kernel_rfl) (by kernel_rfl) (by kernel_rfl) (by kernel_rfl)) ?_
  intro W base args ds gs before hval0 hW hcnd _
  have hval : ∀ (j : Nat) t v, Try.f8.params[j]? = some t → args[j]? = some v → Value.okWide Try.prog W .any base t v := hval0
  have hW' := hW
  obtain ⟨p, q, hA0, hV, rfl, hfz, hnd⟩ := hW
  have hA : DataW.TrodAll enc Try.prog W 0 (fun _ => true) true Try.f8.params.toList args.toList ds p := hA0
  rw [Try.params8] at hA hval
  obtain ⟨v0, v1, v2, d0, d1, d2, p0, p1, p2, rfl, rfl, rfl, h0, h1, h2⟩ := trodAll_three hA
  obtain ⟨rfl, rfl⟩ := trodVars_none hV
  obtain ⟨a00, a01, a02, y00, y01, y02, n0, rfl, rfl, rfl, g00, g01, g02⟩ := open_agg3 Try.underlying24 (by kernel_rfl) (by kernel_rfl) (hval 0 24 v0 rfl rfl) h0
  obtain ⟨x0, hx0, -, wx0⟩ := DataW.trod_int Try.underlying3 g00
  obtain ⟨z0, hz0, -, wz0⟩ := DataW.trod_int Try.underlying3 g01
  obtain ⟨A0, c0, xs0, rfl, hc0, hm0, hR0, hwf0⟩ := open_row Try.underlying22 Try.underlying3 (by kernel_rfl) g02
  injection hx0 with hx0
  injection hz0 with hz0
  subst hx0 hz0
  obtain ⟨a10, a11, a12, y10, y11, y12, n1, rfl, rfl, rfl, g10, g11, g12⟩ := open_agg3 Try.underlying24 (by kernel_rfl) (by kernel_rfl) (hval 1 24 v1 rfl rfl) h1
  obtain ⟨x1, hx1, -, wx1⟩ := DataW.trod_int Try.underlying3 g10
  obtain ⟨z1, hz1, -, wz1⟩ := DataW.trod_int Try.underlying3 g11
  obtain ⟨A1, c1, xs1, rfl, hc1, hm1, hR1, hwf1⟩ := open_row Try.underlying22 Try.underlying3 (by kernel_rfl) g12
  injection hx1 with hx1
  injection hz1 with hz1
  subst hx1 hz1
  obtain ⟨ad2, le2, ca2, rfl⟩ := okWide_slice Try.underlying22 (hval 2 22 v2 rfl rfl)
  obtain ⟨fu2, hf2⟩ := h2
  obtain ⟨A2, c2, xs2, hv2, hc2, hm2, hR2, hwf2⟩ := open_row (v := .slice ad2 le2 ca2) Try.underlying22 Try.underlying3 (by kernel_rfl) hf2
  injection hv2 with ea2 eb2 ec2
  subst ea2 eb2 ec2
  refine (walk W x0 z0 A0 c0 xs0 (wf_i64 wx0) (wf_i64 wz0) hc0 hm0 hR0 x1 z1 A1 c1 xs1 (wf_i64 wx1) (wf_i64 wz1) hc1 hm1 hR1 ad2 ca2 xs2 hc2 hm2 hR2 (fun n hn => wf_i64 (hwf2 n hn))).mono fun e W' ⟨he, hb⟩ => ⟨_, he, ?_⟩
  exact law_post laidOut (by rw [Try.params8]; exact of_decide_eq_true (by kernel_rfl)) rfl rfl Try.underlying4 hW' rfl hb
theorem holds : Rows.EditsTwiceSaid :=
  OpenClaim.holds_of_wide 8 Try.f8 rfl rfl rfl rfl rfl rfl rfl ⟨rfl, rfl, rfl, rfl, rfl⟩ rfl rfl rfl rfl rfl (by kernel_rfl) Try.func8 (by kernel_rfl)
    (of_decide_eq_true (by kernel_rfl)) (by unfold Func.isWrapper; first | (rw [if_pos (by decide +kernel)]; kernel_rfl) | (rw [if_neg (by decide +kernel)]; exact ⟨rfl, rfl⟩))
    (fun os started H enc _ => lifted os started H enc)
end Go.Proofs.Ytmiebgejmiadlaa.LTwice
namespace Go.Proofs.Ytmiebgejmiadlaa
theorem editsTwice_holds : Rows.EditsTwiceSaid := LTwice.holds
end Go.Proofs.Ytmiebgejmiadlaa
