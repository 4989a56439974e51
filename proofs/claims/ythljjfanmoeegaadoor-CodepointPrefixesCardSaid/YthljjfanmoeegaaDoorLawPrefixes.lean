/-
  CodepointPrefixes: for every input the law returns true, and its arguments read as before; the table of digits is tied to the program's text (a card). No other condition.
-/
import Derived.Test.YthljjfanmoeegaaDoorCards
import Derived.Test.YthljjfanmoeegaaDoorTie
import Derived.Test.YthljjfanmoeegaaDoorCp5
import Derived.Test.YthljjfanmoeegaaDoorLift
import Derived.ProofKit
import Derived.OpenShut
import Derived.Deep.DeepHandedRow
import Derived.Lib.LaidTab
namespace Go.Proofs.YthljjfanmoeegaaDoor.LPrefixes
open Go.ChangeShapes Go.WideShapes Go.ChangeAt Go.RowKit Go.UtYthljjfanmoeegaaDoor Go.Joins
theorem cmpL_swap (xs ys : List Int) : cmpL ys xs = -(cmpL xs ys) := by
  induction xs generalizing ys with
  | nil => cases ys <;> simp [cmpL]
  | cons x xs ih => cases ys with
    | nil => simp [cmpL]
    | cons y ys =>
      rw [cmpL, cmpL]
      by_cases h1 : x < y
      · rw [if_neg (by omega), if_pos h1, if_pos h1]; rfl
      · by_cases h2 : y < x
        · rw [if_pos h2, if_neg h1, if_pos h2]
        · rw [if_neg h2, if_neg h1, if_neg h1, if_neg h2]; exact ih ys
theorem cmpL_bd (xs ys : List Int) : -1 ≤ cmpL xs ys ∧ cmpL xs ys ≤ 1 := by
  induction xs generalizing ys with
  | nil => cases ys <;> simp [cmpL]
  | cons x xs ih => cases ys with
    | nil => simp [cmpL]
    | cons y ys =>
      rw [cmpL]
      split
      · omega
      · split
        · omega
        · exact ih ys
theorem cmpL_trans (xs ys zs : List Int) (h1 : cmpL xs ys ≤ 0) (h2 : cmpL ys zs ≤ 0) : cmpL xs zs ≤ 0 := by
  induction xs generalizing ys zs with
  | nil => cases zs <;> simp [cmpL]
  | cons x xs ih => cases ys with
    | nil => simp [cmpL] at h1
    | cons y ys => cases zs with
      | nil => simp [cmpL] at h2
      | cons z zs =>
        rw [cmpL] at h1 h2 ⊢
        by_cases a1 : x < y
        · by_cases b1 : y < z
          · rw [if_pos (by omega)]; omega
          · by_cases b2 : z < y
            · rw [if_neg b1, if_pos b2] at h2; omega
            · rw [if_pos (by omega)]; omega
        · by_cases a2 : y < x
          · rw [if_neg a1, if_pos a2] at h1; omega
          · rw [if_neg a1, if_neg a2] at h1
            by_cases b1 : y < z
            · rw [if_pos (by omega)]; omega
            · by_cases b2 : z < y
              · rw [if_neg b1, if_pos b2] at h2; omega
              · rw [if_neg b1, if_neg b2] at h2
                rw [if_neg (by omega), if_neg (by omega)]
                exact ih ys zs h1 h2
theorem cmpL_pre (xs ys : List Int) : cmpL xs (xs ++ ys) ≤ 0 := by
  induction xs with
  | nil => cases ys <;> simp [cmpL]
  | cons x xs ih => rw [List.cons_append, cmpL, if_neg (by omega), if_neg (by omega)]; exact ih
theorem cmpL_left (zs xs ys : List Int) : cmpL (zs ++ xs) (zs ++ ys) = cmpL xs ys := by
  induction zs with
  | nil => rfl
  | cons z zs ih => rw [List.cons_append, List.cons_append, cmpL, if_neg (by omega), if_neg (by omega)]; exact ih
theorem cmpL_right (xs ys zs : List Int) (h : xs.length = ys.length) : cmpL (xs ++ zs) (ys ++ zs) = cmpL xs ys := by
  induction xs generalizing ys with
  | nil => cases ys with
    | nil => simp [cmpL_refl]
    | cons y ys => simp at h
  | cons x xs ih => cases ys with
    | nil => simp at h
    | cons y ys =>
      rw [List.cons_append, List.cons_append, cmpL, cmpL, ih ys (by simpa using h)]
theorem ccompare_w (A A' : Option Addr) (n n' c c' B : Nat) (xs ys : List Int) (w : World) (hx : Row w B A (ints xs)) (hy : Row w B A' (ints ys)) (ex : xs.length = n) (ey : ys.length = n') (lx : n ≤ maxLen) (ly : n' ≤ maxLen) (v : Int) (hv : cmpL xs ys = v) :
    Calls Tryd.prog 16 #[.slice A n c, .slice A' n' c'] w fun e w' => e = .returned (.int .i64 v) ∧ Below w.heap.size w w' := by
  subst ex ey
  exact ccompare_b A A' c c' B xs ys w hx hy lx ly v hv
theorem cequal_w (A A' : Option Addr) (n n' c c' B : Nat) (xs ys : List Int) (w : World) (hx : Row w B A (ints xs)) (hy : Row w B A' (ints ys)) (ex : xs.length = n) (ey : ys.length = n') (lx : n ≤ maxLen) (ly : n' ≤ maxLen) (v : Bool) (hv : decide (xs = ys) = v) :
    Calls Tryd.prog 18 #[.slice A n c, .slice A' n' c'] w fun e w' => e = .returned (.bool v) ∧ Below w.heap.size w w' := by
  subst ex ey
  exact cequal_b A A' c c' B xs ys w hx hy lx ly v hv
theorem rcompare_w (A A' : Option Addr) (n n' c c' B : Nat) (xs ys : List Int) (w : World) (hx : Row w B A (ints xs)) (hy : Row w B A' (ints ys)) (ex : xs.length = n) (ey : ys.length = n') (lx : n ≤ maxLen) (ly : n' ≤ maxLen) (v : Int) (hv : cmpL xs ys = v) :
    Calls Tryd.prog 17 #[.slice A n c, .slice A' n' c'] w fun e w' => e = .returned (.int .i64 v) ∧ Below w.heap.size w w' := by
  subst ex ey
  exact (compare_any A A' c c' B xs ys w hx hy lx ly).mono fun _ _ ⟨he, n, hw⟩ => ⟨hv ▸ he, hw ▸ below_drewN (Below.refl _ _) n⟩
theorem int_info : (Tryd.prog.info? 3).map (fun i => (i.zero, i.size, i.bytes)) = some (some (.int .i64 0), 1, 8) := by kernel_rfl
set_option maxRecDepth 100000 in
set_option maxHeartbeats 2000000 in
theorem walk (w : World) (hd : Digs w) (A0 : Option Addr) (c0 : Nat) (xs0 : List Int) (_hc0 : xs0.length ≤ c0) (_hm0 : c0 ≤ maxLen) (hR0 : Row w w.heap.size A0 (ints xs0)) (A1 : Option Addr) (c1 : Nat) (xs1 : List Int) (_hc1 : xs1.length ≤ c1) (_hm1 : c1 ≤ maxLen) (hR1 : Row w w.heap.size A1 (ints xs1)) (A2 : Option Addr) (c2 : Nat) (xs2 : List Int) (_hc2 : xs2.length ≤ c2) (_hm2 : c2 ≤ maxLen) (hR2 : Row w w.heap.size A2 (ints xs2)) :
    Calls Tryd.prog 5 #[.slice A0 xs0.length c0, .slice A1 xs1.length c1, .slice A2 xs2.length c2] w fun e w' => e = .returned (.bool true) ∧ Below w.heap.size w w' := by
  have HD := Lib.hid hd
  clear hd
  obtain ⟨i0, hi0, hz0, hz1, hz2⟩ := info_parts int_info
  have R0 := Lib.hid hR0
  clear hR0
  have R1 := Lib.hid hR1
  clear hR1
  have R2 := Lib.hid hR2
  clear hR2
  by_cases h0 : 300 < xs0.length
  · go_enter Tryd.func5, Tryd.ntmps5
    go_wp2_with fail
    refine (awake_any _ HD.out).mono ?_
    rintro e wz ⟨rfl, hbz⟩
    have HBZ := Lib.hid hbz
    clear hbz
    go_wp2
    go_ret
    exact ⟨rfl, HBZ.out⟩
  · skip
    by_cases h1 : 300 < xs1.length
    · go_enter Tryd.func5, Tryd.ntmps5
      go_wp2_with fail
      refine (awake_any _ HD.out).mono ?_
      rintro e wz ⟨rfl, hbz⟩
      have HBZ := Lib.hid hbz
      clear hbz
      go_wp2
      go_ret
      exact ⟨rfl, HBZ.out⟩
    · skip
      by_cases h2 : 300 < xs2.length
      · go_enter Tryd.func5, Tryd.ntmps5
        go_wp2_with fail
        refine (awake_any _ HD.out).mono ?_
        rintro e wz ⟨rfl, hbz⟩
        have HBZ := Lib.hid hbz
        clear hbz
        go_wp2
        go_ret
        exact ⟨rfl, HBZ.out⟩
      · obtain ⟨v, hv⟩ : ∃ v, cmpL xs0 xs1 = v := ⟨_, rfl⟩
        have HV := Lib.hid hv
        have HV2 := Lib.hid ((cmpL_left xs2 xs0 xs1).trans hv)
        by_cases hl : xs0.length = xs1.length
        · have HV3 := Lib.hid ((cmpL_right xs0 xs1 xs2 hl).trans hv)
          have hn : ((xs0.length : Int) != (xs1.length : Int)) = false := by simp [hl]
          clear hl hv
          go_enter Tryd.func5, Tryd.ntmps5
          go_wp2_with (first
              | (at_builtin
                 refine wpList_append_row _ rfl (.tmp 26) (.tmp 27) _ rfl w.heap.size 3 i0 _ 1 8 Tryd.underlying29 hi0 hz0 hz1 hz2 rfl (by omega) (.slice none 0 0) 0 [] rfl (own_nil w) _ A2 xs2.length c2 (ints xs2) rfl (by simp [ints_len]) R2.out (ints_one _) (by simp only [maxLen]; omega) (by omega) (Nat.le_refl _) ?_
                 intro y1a u1a hown1 hg1 hat1
                 have hb1 : Hid (Below w.heap.size w u1a) := (Below.refl _ _).grown hg1 (Nat.le_refl _) (by simp [Value.ownBlock])
                 have ho1 := Lib.hid hown1
                 clear hown1 hg1 hat1)
              | (at_builtin
                 refine wpList_append_row _ rfl (.tmp 29) (.tmp 30) _ rfl w.heap.size 3 i0 _ 1 8 Tryd.underlying29 hi0 hz0 hz1 hz2 rfl (by omega) y1a (0 + xs2.length) ([] ++ ints xs2) rfl ho1.out _ A0 xs0.length c0 (ints xs0) rfl (by simp [ints_len]) (R0.out.below hb1.out) (ints_one _) (by simp only [maxLen]; omega) (by omega) hb1.out.size ?_
                 intro y1b u1b hown2 hg2 hat2
                 have hb2 : Below w.heap.size w u1b := hb1.out.grown hg2 hb1.out.size (fun g hg => own_base ho1.out g hg)
                 obtain ⟨Aca, cca, rfl, -, -, hre⟩ := own_row hown2
                 have hre2 : Row u1b u1b.heap.size Aca (ints (xs2 ++ xs0)) := by simpa [ints_append] using hre
                 have hbc := hb2
                 have HB1 := Lib.hid hbc
                 have HD1 := Lib.hid (HD.out.below hbc)
                 have R01 := Lib.hid (R0.out.below hbc).lt
                 have R11 := Lib.hid (R1.out.below hbc).lt
                 have R21 := Lib.hid (R2.out.below hbc).lt
                 have Rca1 := Lib.hid (hre2)
                 clear hbc HD R0 R1 R2
                 clear hre hre2 hown2 hg2 hat2 ho1 hb1 hb2)
              | (at_builtin
                 refine wpList_append_row _ rfl (.tmp 32) (.tmp 33) _ rfl u1b.heap.size 3 i0 _ 1 8 Tryd.underlying29 hi0 hz0 hz1 hz2 rfl (by omega) (.slice none 0 0) 0 [] rfl (own_nil u1b) _ A2 xs2.length c2 (ints xs2) rfl (by simp [ints_len]) R21.out (ints_one _) (by simp only [maxLen]; omega) (by omega) (Nat.le_refl _) ?_
                 intro y2a u2a hown1 hg1 hat1
                 have hb1 : Hid (Below u1b.heap.size u1b u2a) := (Below.refl _ _).grown hg1 (Nat.le_refl _) (by simp [Value.ownBlock])
                 have ho1 := Lib.hid hown1
                 clear hown1 hg1 hat1)
              | (at_builtin
                 refine wpList_append_row _ rfl (.tmp 35) (.tmp 36) _ rfl u1b.heap.size 3 i0 _ 1 8 Tryd.underlying29 hi0 hz0 hz1 hz2 rfl (by omega) y2a (0 + xs2.length) ([] ++ ints xs2) rfl ho1.out _ A1 xs1.length c1 (ints xs1) rfl (by simp [ints_len]) (R11.out.below hb1.out) (ints_one _) (by simp only [maxLen]; omega) (by omega) hb1.out.size ?_
                 intro y2b u2b hown2 hg2 hat2
                 have hb2 : Below u1b.heap.size u1b u2b := hb1.out.grown hg2 hb1.out.size (fun g hg => own_base ho1.out g hg)
                 obtain ⟨Acb, ccb, rfl, -, -, hre⟩ := own_row hown2
                 have hre2 : Row u2b u2b.heap.size Acb (ints (xs2 ++ xs1)) := by simpa [ints_append] using hre
                 have hbc := hb2
                 have HB2 := Lib.hid (below_then HB1.out hbc (Nat.le_refl _))
                 have HD2 := Lib.hid (HD1.out.below hbc)
                 have R02 := Lib.hid (R01.out.below hbc).lt
                 have R12 := Lib.hid (R11.out.below hbc).lt
                 have R22 := Lib.hid (R21.out.below hbc).lt
                 have Rca2 := Lib.hid (Rca1.out.below hbc).lt
                 have Rcb2 := Lib.hid (hre2)
                 clear hbc HD1 R01 R11 R21 Rca1 HB1
                 clear hre hre2 hown2 hg2 hat2 ho1 hb1 hb2)
              | (at_builtin
                 refine wpList_append_row _ rfl (.tmp 38) (.tmp 39) _ rfl u2b.heap.size 3 i0 _ 1 8 Tryd.underlying29 hi0 hz0 hz1 hz2 rfl (by omega) (.slice none 0 0) 0 [] rfl (own_nil u2b) _ A0 xs0.length c0 (ints xs0) rfl (by simp [ints_len]) R02.out (ints_one _) (by simp only [maxLen]; omega) (by omega) (Nat.le_refl _) ?_
                 intro y3a u3a hown1 hg1 hat1
                 have hb1 : Hid (Below u2b.heap.size u2b u3a) := (Below.refl _ _).grown hg1 (Nat.le_refl _) (by simp [Value.ownBlock])
                 have ho1 := Lib.hid hown1
                 clear hown1 hg1 hat1)
              | (at_builtin
                 refine wpList_append_row _ rfl (.tmp 41) (.tmp 42) _ rfl u2b.heap.size 3 i0 _ 1 8 Tryd.underlying29 hi0 hz0 hz1 hz2 rfl (by omega) y3a (0 + xs0.length) ([] ++ ints xs0) rfl ho1.out _ A2 xs2.length c2 (ints xs2) rfl (by simp [ints_len]) (R22.out.below hb1.out) (ints_one _) (by simp only [maxLen]; omega) (by omega) hb1.out.size ?_
                 intro y3b u3b hown2 hg2 hat2
                 have hb2 : Below u2b.heap.size u2b u3b := hb1.out.grown hg2 hb1.out.size (fun g hg => own_base ho1.out g hg)
                 obtain ⟨Aac, cac, rfl, -, -, hre⟩ := own_row hown2
                 have hre2 : Row u3b u3b.heap.size Aac (ints (xs0 ++ xs2)) := by simpa [ints_append] using hre
                 have hbc := hb2
                 have HB3 := Lib.hid (below_then HB2.out hbc (Nat.le_refl _))
                 have HD3 := Lib.hid (HD2.out.below hbc)
                 have R03 := Lib.hid (R02.out.below hbc).lt
                 have R13 := Lib.hid (R12.out.below hbc).lt
                 have R23 := Lib.hid (R22.out.below hbc).lt
                 have Rca3 := Lib.hid (Rca2.out.below hbc).lt
                 have Rcb3 := Lib.hid (Rcb2.out.below hbc).lt
                 have Rac3 := Lib.hid (hre2)
                 clear hbc HD2 R02 R12 R22 Rca2 Rcb2 HB2
                 clear hre hre2 hown2 hg2 hat2 ho1 hb1 hb2)
              | (at_builtin
                 refine wpList_append_row _ rfl (.tmp 44) (.tmp 45) _ rfl u3b.heap.size 3 i0 _ 1 8 Tryd.underlying29 hi0 hz0 hz1 hz2 rfl (by omega) (.slice none 0 0) 0 [] rfl (own_nil u3b) _ A1 xs1.length c1 (ints xs1) rfl (by simp [ints_len]) R13.out (ints_one _) (by simp only [maxLen]; omega) (by omega) (Nat.le_refl _) ?_
                 intro y4a u4a hown1 hg1 hat1
                 have hb1 : Hid (Below u3b.heap.size u3b u4a) := (Below.refl _ _).grown hg1 (Nat.le_refl _) (by simp [Value.ownBlock])
                 have ho1 := Lib.hid hown1
                 clear hown1 hg1 hat1)
              | (at_builtin
                 refine wpList_append_row _ rfl (.tmp 47) (.tmp 48) _ rfl u3b.heap.size 3 i0 _ 1 8 Tryd.underlying29 hi0 hz0 hz1 hz2 rfl (by omega) y4a (0 + xs1.length) ([] ++ ints xs1) rfl ho1.out _ A2 xs2.length c2 (ints xs2) rfl (by simp [ints_len]) (R23.out.below hb1.out) (ints_one _) (by simp only [maxLen]; omega) (by omega) hb1.out.size ?_
                 intro y4b u4b hown2 hg2 hat2
                 have hb2 : Below u3b.heap.size u3b u4b := hb1.out.grown hg2 hb1.out.size (fun g hg => own_base ho1.out g hg)
                 obtain ⟨Abc, cbc, rfl, -, -, hre⟩ := own_row hown2
                 have hre2 : Row u4b u4b.heap.size Abc (ints (xs1 ++ xs2)) := by simpa [ints_append] using hre
                 have hbc := hb2
                 have HB4 := Lib.hid (below_then HB3.out hbc (Nat.le_refl _))
                 have HD4 := Lib.hid (HD3.out.below hbc)
                 have R04 := Lib.hid (R03.out.below hbc).lt
                 have R14 := Lib.hid (R13.out.below hbc).lt
                 have R24 := Lib.hid (R23.out.below hbc).lt
                 have Rca4 := Lib.hid (Rca3.out.below hbc).lt
                 have Rcb4 := Lib.hid (Rcb3.out.below hbc).lt
                 have Rac4 := Lib.hid (Rac3.out.below hbc).lt
                 have Rbc4 := Lib.hid (hre2)
                 clear hbc HD3 R03 R13 R23 Rca3 Rcb3 Rac3 HB3
                 clear hre hre2 hown2 hg2 hat2 ho1 hb1 hb2))
          refine (ccompare_w A0 A1 _ _ c0 c1 _ xs0 xs1 _ R04.out R14.out rfl rfl (by simp only [maxLen]; omega) (by simp only [maxLen]; omega) _ HV.out).mono ?_
          rintro e v5 ⟨rfl, hb⟩
          have hbc := hb
          have HB5 := Lib.hid (below_then HB4.out hbc (Nat.le_refl _))
          have HD5 := Lib.hid (HD4.out.below hbc)
          have R05 := Lib.hid (R04.out.below hbc).lt
          have R15 := Lib.hid (R14.out.below hbc).lt
          have R25 := Lib.hid (R24.out.below hbc).lt
          have Rca5 := Lib.hid (Rca4.out.below hbc).lt
          have Rcb5 := Lib.hid (Rcb4.out.below hbc).lt
          have Rac5 := Lib.hid (Rac4.out.below hbc).lt
          have Rbc5 := Lib.hid (Rbc4.out.below hbc).lt
          clear hbc HD4 R04 R14 R24 Rca4 Rcb4 Rac4 Rbc4 HB4
          clear hb
          go_wp2_with fail
          refine (ccompare_w Aca Acb _ _ cca ccb _ (xs2 ++ xs0) (xs2 ++ xs1) _ Rca5.out Rcb5.out (by simp) (by simp) (by simp only [maxLen]; omega) (by simp only [maxLen]; omega) _ HV2.out).mono ?_
          rintro e v6 ⟨rfl, hb⟩
          have hbc := hb
          have HB6 := Lib.hid (below_then HB5.out hbc (Nat.le_refl _))
          have HD6 := Lib.hid (HD5.out.below hbc)
          have R06 := Lib.hid (R05.out.below hbc).lt
          have R16 := Lib.hid (R15.out.below hbc).lt
          have R26 := Lib.hid (R25.out.below hbc).lt
          have Rca6 := Lib.hid (Rca5.out.below hbc).lt
          have Rcb6 := Lib.hid (Rcb5.out.below hbc).lt
          have Rac6 := Lib.hid (Rac5.out.below hbc).lt
          have Rbc6 := Lib.hid (Rbc5.out.below hbc).lt
          clear hbc HD5 R05 R15 R25 Rca5 Rcb5 Rac5 Rbc5 HB5
          clear hb
          go_wp2_with fail
          refine (ccompare_w Aac Abc _ _ cac cbc _ (xs0 ++ xs2) (xs1 ++ xs2) _ Rac6.out Rbc6.out (by simp) (by simp) (by simp only [maxLen]; omega) (by simp only [maxLen]; omega) _ HV3.out).mono ?_
          rintro e v7 ⟨rfl, hb⟩
          have hbc := hb
          have HB7 := Lib.hid (below_then HB6.out hbc (Nat.le_refl _))
          have HD7 := Lib.hid (HD6.out.below hbc)
          have R07 := Lib.hid (R06.out.below hbc).lt
          have R17 := Lib.hid (R16.out.below hbc).lt
          have R27 := Lib.hid (R26.out.below hbc).lt
          have Rca7 := Lib.hid (Rca6.out.below hbc).lt
          have Rcb7 := Lib.hid (Rcb6.out.below hbc).lt
          have Rac7 := Lib.hid (Rac6.out.below hbc).lt
          have Rbc7 := Lib.hid (Rbc6.out.below hbc).lt
          clear hbc HD6 R06 R16 R26 Rca6 Rcb6 Rac6 Rbc6 HB6
          clear hb
          go_wp2_with fail
          refine (awake_any _ HD7.out).mono ?_
          rintro e wz ⟨rfl, hbz⟩
          have HBZ := Lib.hid (below_then HB7.out hbz (Nat.le_refl _))
          clear hbz
          go_wp2
          go_ret
          exact ⟨rfl, HBZ.out⟩
        · have hn : ((xs0.length : Int) != (xs1.length : Int)) = true := by simp; omega
          clear hl hv
          go_enter Tryd.func5, Tryd.ntmps5
          go_wp2_with (first
              | (at_builtin
                 refine wpList_append_row _ rfl (.tmp 26) (.tmp 27) _ rfl w.heap.size 3 i0 _ 1 8 Tryd.underlying29 hi0 hz0 hz1 hz2 rfl (by omega) (.slice none 0 0) 0 [] rfl (own_nil w) _ A2 xs2.length c2 (ints xs2) rfl (by simp [ints_len]) R2.out (ints_one _) (by simp only [maxLen]; omega) (by omega) (Nat.le_refl _) ?_
                 intro y1a u1a hown1 hg1 hat1
                 have hb1 : Hid (Below w.heap.size w u1a) := (Below.refl _ _).grown hg1 (Nat.le_refl _) (by simp [Value.ownBlock])
                 have ho1 := Lib.hid hown1
                 clear hown1 hg1 hat1)
              | (at_builtin
                 refine wpList_append_row _ rfl (.tmp 29) (.tmp 30) _ rfl w.heap.size 3 i0 _ 1 8 Tryd.underlying29 hi0 hz0 hz1 hz2 rfl (by omega) y1a (0 + xs2.length) ([] ++ ints xs2) rfl ho1.out _ A0 xs0.length c0 (ints xs0) rfl (by simp [ints_len]) (R0.out.below hb1.out) (ints_one _) (by simp only [maxLen]; omega) (by omega) hb1.out.size ?_
                 intro y1b u1b hown2 hg2 hat2
                 have hb2 : Below w.heap.size w u1b := hb1.out.grown hg2 hb1.out.size (fun g hg => own_base ho1.out g hg)
                 obtain ⟨Aca, cca, rfl, -, -, hre⟩ := own_row hown2
                 have hre2 : Row u1b u1b.heap.size Aca (ints (xs2 ++ xs0)) := by simpa [ints_append] using hre
                 have hbc := hb2
                 have HB1 := Lib.hid hbc
                 have HD1 := Lib.hid (HD.out.below hbc)
                 have R01 := Lib.hid (R0.out.below hbc).lt
                 have R11 := Lib.hid (R1.out.below hbc).lt
                 have R21 := Lib.hid (R2.out.below hbc).lt
                 have Rca1 := Lib.hid (hre2)
                 clear hbc HD R0 R1 R2
                 clear hre hre2 hown2 hg2 hat2 ho1 hb1 hb2)
              | (at_builtin
                 refine wpList_append_row _ rfl (.tmp 32) (.tmp 33) _ rfl u1b.heap.size 3 i0 _ 1 8 Tryd.underlying29 hi0 hz0 hz1 hz2 rfl (by omega) (.slice none 0 0) 0 [] rfl (own_nil u1b) _ A2 xs2.length c2 (ints xs2) rfl (by simp [ints_len]) R21.out (ints_one _) (by simp only [maxLen]; omega) (by omega) (Nat.le_refl _) ?_
                 intro y2a u2a hown1 hg1 hat1
                 have hb1 : Hid (Below u1b.heap.size u1b u2a) := (Below.refl _ _).grown hg1 (Nat.le_refl _) (by simp [Value.ownBlock])
                 have ho1 := Lib.hid hown1
                 clear hown1 hg1 hat1)
              | (at_builtin
                 refine wpList_append_row _ rfl (.tmp 35) (.tmp 36) _ rfl u1b.heap.size 3 i0 _ 1 8 Tryd.underlying29 hi0 hz0 hz1 hz2 rfl (by omega) y2a (0 + xs2.length) ([] ++ ints xs2) rfl ho1.out _ A1 xs1.length c1 (ints xs1) rfl (by simp [ints_len]) (R11.out.below hb1.out) (ints_one _) (by simp only [maxLen]; omega) (by omega) hb1.out.size ?_
                 intro y2b u2b hown2 hg2 hat2
                 have hb2 : Below u1b.heap.size u1b u2b := hb1.out.grown hg2 hb1.out.size (fun g hg => own_base ho1.out g hg)
                 obtain ⟨Acb, ccb, rfl, -, -, hre⟩ := own_row hown2
                 have hre2 : Row u2b u2b.heap.size Acb (ints (xs2 ++ xs1)) := by simpa [ints_append] using hre
                 have hbc := hb2
                 have HB2 := Lib.hid (below_then HB1.out hbc (Nat.le_refl _))
                 have HD2 := Lib.hid (HD1.out.below hbc)
                 have R02 := Lib.hid (R01.out.below hbc).lt
                 have R12 := Lib.hid (R11.out.below hbc).lt
                 have R22 := Lib.hid (R21.out.below hbc).lt
                 have Rca2 := Lib.hid (Rca1.out.below hbc).lt
                 have Rcb2 := Lib.hid (hre2)
                 clear hbc HD1 R01 R11 R21 Rca1 HB1
                 clear hre hre2 hown2 hg2 hat2 ho1 hb1 hb2)
              | (at_builtin
                 refine wpList_append_row _ rfl (.tmp 38) (.tmp 39) _ rfl u2b.heap.size 3 i0 _ 1 8 Tryd.underlying29 hi0 hz0 hz1 hz2 rfl (by omega) (.slice none 0 0) 0 [] rfl (own_nil u2b) _ A0 xs0.length c0 (ints xs0) rfl (by simp [ints_len]) R02.out (ints_one _) (by simp only [maxLen]; omega) (by omega) (Nat.le_refl _) ?_
                 intro y3a u3a hown1 hg1 hat1
                 have hb1 : Hid (Below u2b.heap.size u2b u3a) := (Below.refl _ _).grown hg1 (Nat.le_refl _) (by simp [Value.ownBlock])
                 have ho1 := Lib.hid hown1
                 clear hown1 hg1 hat1)
              | (at_builtin
                 refine wpList_append_row _ rfl (.tmp 41) (.tmp 42) _ rfl u2b.heap.size 3 i0 _ 1 8 Tryd.underlying29 hi0 hz0 hz1 hz2 rfl (by omega) y3a (0 + xs0.length) ([] ++ ints xs0) rfl ho1.out _ A2 xs2.length c2 (ints xs2) rfl (by simp [ints_len]) (R22.out.below hb1.out) (ints_one _) (by simp only [maxLen]; omega) (by omega) hb1.out.size ?_
                 intro y3b u3b hown2 hg2 hat2
                 have hb2 : Below u2b.heap.size u2b u3b := hb1.out.grown hg2 hb1.out.size (fun g hg => own_base ho1.out g hg)
                 obtain ⟨Aac, cac, rfl, -, -, hre⟩ := own_row hown2
                 have hre2 : Row u3b u3b.heap.size Aac (ints (xs0 ++ xs2)) := by simpa [ints_append] using hre
                 have hbc := hb2
                 have HB3 := Lib.hid (below_then HB2.out hbc (Nat.le_refl _))
                 have HD3 := Lib.hid (HD2.out.below hbc)
                 have R03 := Lib.hid (R02.out.below hbc).lt
                 have R13 := Lib.hid (R12.out.below hbc).lt
                 have R23 := Lib.hid (R22.out.below hbc).lt
                 have Rca3 := Lib.hid (Rca2.out.below hbc).lt
                 have Rcb3 := Lib.hid (Rcb2.out.below hbc).lt
                 have Rac3 := Lib.hid (hre2)
                 clear hbc HD2 R02 R12 R22 Rca2 Rcb2 HB2
                 clear hre hre2 hown2 hg2 hat2 ho1 hb1 hb2)
              | (at_builtin
                 refine wpList_append_row _ rfl (.tmp 44) (.tmp 45) _ rfl u3b.heap.size 3 i0 _ 1 8 Tryd.underlying29 hi0 hz0 hz1 hz2 rfl (by omega) (.slice none 0 0) 0 [] rfl (own_nil u3b) _ A1 xs1.length c1 (ints xs1) rfl (by simp [ints_len]) R13.out (ints_one _) (by simp only [maxLen]; omega) (by omega) (Nat.le_refl _) ?_
                 intro y4a u4a hown1 hg1 hat1
                 have hb1 : Hid (Below u3b.heap.size u3b u4a) := (Below.refl _ _).grown hg1 (Nat.le_refl _) (by simp [Value.ownBlock])
                 have ho1 := Lib.hid hown1
                 clear hown1 hg1 hat1)
              | (at_builtin
                 refine wpList_append_row _ rfl (.tmp 47) (.tmp 48) _ rfl u3b.heap.size 3 i0 _ 1 8 Tryd.underlying29 hi0 hz0 hz1 hz2 rfl (by omega) y4a (0 + xs1.length) ([] ++ ints xs1) rfl ho1.out _ A2 xs2.length c2 (ints xs2) rfl (by simp [ints_len]) (R23.out.below hb1.out) (ints_one _) (by simp only [maxLen]; omega) (by omega) hb1.out.size ?_
                 intro y4b u4b hown2 hg2 hat2
                 have hb2 : Below u3b.heap.size u3b u4b := hb1.out.grown hg2 hb1.out.size (fun g hg => own_base ho1.out g hg)
                 obtain ⟨Abc, cbc, rfl, -, -, hre⟩ := own_row hown2
                 have hre2 : Row u4b u4b.heap.size Abc (ints (xs1 ++ xs2)) := by simpa [ints_append] using hre
                 have hbc := hb2
                 have HB4 := Lib.hid (below_then HB3.out hbc (Nat.le_refl _))
                 have HD4 := Lib.hid (HD3.out.below hbc)
                 have R04 := Lib.hid (R03.out.below hbc).lt
                 have R14 := Lib.hid (R13.out.below hbc).lt
                 have R24 := Lib.hid (R23.out.below hbc).lt
                 have Rca4 := Lib.hid (Rca3.out.below hbc).lt
                 have Rcb4 := Lib.hid (Rcb3.out.below hbc).lt
                 have Rac4 := Lib.hid (Rac3.out.below hbc).lt
                 have Rbc4 := Lib.hid (hre2)
                 clear hbc HD3 R03 R13 R23 Rca3 Rcb3 Rac3 HB3
                 clear hre hre2 hown2 hg2 hat2 ho1 hb1 hb2))
          refine (ccompare_w A0 A1 _ _ c0 c1 _ xs0 xs1 _ R04.out R14.out rfl rfl (by simp only [maxLen]; omega) (by simp only [maxLen]; omega) _ HV.out).mono ?_
          rintro e v5 ⟨rfl, hb⟩
          have hbc := hb
          have HB5 := Lib.hid (below_then HB4.out hbc (Nat.le_refl _))
          have HD5 := Lib.hid (HD4.out.below hbc)
          have R05 := Lib.hid (R04.out.below hbc).lt
          have R15 := Lib.hid (R14.out.below hbc).lt
          have R25 := Lib.hid (R24.out.below hbc).lt
          have Rca5 := Lib.hid (Rca4.out.below hbc).lt
          have Rcb5 := Lib.hid (Rcb4.out.below hbc).lt
          have Rac5 := Lib.hid (Rac4.out.below hbc).lt
          have Rbc5 := Lib.hid (Rbc4.out.below hbc).lt
          clear hbc HD4 R04 R14 R24 Rca4 Rcb4 Rac4 Rbc4 HB4
          clear hb
          go_wp2_with fail
          refine (ccompare_w Aca Acb _ _ cca ccb _ (xs2 ++ xs0) (xs2 ++ xs1) _ Rca5.out Rcb5.out (by simp) (by simp) (by simp only [maxLen]; omega) (by simp only [maxLen]; omega) _ HV2.out).mono ?_
          rintro e v6 ⟨rfl, hb⟩
          have hbc := hb
          have HB6 := Lib.hid (below_then HB5.out hbc (Nat.le_refl _))
          have HD6 := Lib.hid (HD5.out.below hbc)
          have R06 := Lib.hid (R05.out.below hbc).lt
          have R16 := Lib.hid (R15.out.below hbc).lt
          have R26 := Lib.hid (R25.out.below hbc).lt
          have Rca6 := Lib.hid (Rca5.out.below hbc).lt
          have Rcb6 := Lib.hid (Rcb5.out.below hbc).lt
          have Rac6 := Lib.hid (Rac5.out.below hbc).lt
          have Rbc6 := Lib.hid (Rbc5.out.below hbc).lt
          clear hbc HD5 R05 R15 R25 Rca5 Rcb5 Rac5 Rbc5 HB5
          clear hb
          go_wp2_with fail
          refine (awake_any _ HD6.out).mono ?_
          rintro e wz ⟨rfl, hbz⟩
          have HBZ := Lib.hid (below_then HB6.out hbz (Nat.le_refl _))
          clear hbz
          go_wp2
          go_ret
          exact ⟨rfl, HBZ.out⟩
theorem own : ownKnob Tryd.prog.godebug = none := by kernel_rfl
theorem laidOut : laidOutB Tryd.prog = true := by kernel_rfl
theorem gTab : Tryd.prog.globalNamed "unicodetext/codepoint.digits" = some 0 := by kernel_rfl
theorem gTabType : (Tryd.prog.globals[0]?).map (·.type) = some 35 := by kernel_rfl
theorem cellsA : Tryd.prog.cellsOf 35 = 16 := by kernel_rfl
theorem cellsB : Tryd.prog.cellsOf 5 = 1 := by kernel_rfl
theorem table {W : World} (h : laidMetH Tryd.prog Rows.codepointPrefixesRow.laid W) : Lib.TabIs Tryd.prog W "unicodetext/codepoint.digits" .u8 [48, 49, 50, 51, 52, 53, 54, 55, 56, 57, 65, 66, 67, 68, 69, 70] :=
  Lib.tabIs_of_head (rest := []) gTab gTabType Tryd.underlying35 Tryd.underlying5 cellsB cellsA h
theorem digs {W : World} (h : laidMetH Tryd.prog Rows.codepointPrefixesRow.laid W) : Digs W := by
  have hc : ∀ d, d < 16 → W.cell? ⟨0, d, none⟩ = some (.int .u8 ((dg d).toNat : Int)) := fun d hd => by
    have e : ∀ d, d < 16 → ([48, 49, 50, 51, 52, 53, 54, 55, 56, 57, 65, 66, 67, 68, 69, 70] : List Int)[d]? = some ((dg d).toNat : Int) := by decide
    have h1 := (table h).cell gTab d (by simpa using hd)
    rw [h1]
    have h2 := e d hd
    simp only [List.getD, h2, Option.getD_some]
  exact ⟨World.block_lt_of_cell? W ⟨0, 0, none⟩ (hc 0 (by omega)), hc⟩
theorem contract (H : Type) (enc : TypeId × Value → H) (W : World) (base : Nat) (args : Array Value) (ds gs : List (DataW H)) (before : List MemPlace)
    (hval : ∀ (j : Nat) t v, Tryd.f5.params[j]? = some t → args[j]? = some v → Value.okWide Tryd.prog W .any base t v)
    (hW : DataW.Whole enc Tryd.prog Tryd.f5.params.toList Rows.codepointPrefixesSpec.vars false W args.toList ds gs before) (hL : laidMetH Tryd.prog Rows.codepointPrefixesRow.laid W) :
    Calls Tryd.prog 5 args W fun e W' => ∃ v, e = .returned v ∧ Rows.codepointPrefixesSpec.post enc Tryd.prog Tryd.f5 false true false false W args v W' := by
  have hW' := hW
  obtain ⟨p, q, hA0, hV, rfl, hfz, hnd⟩ := hW
  have hA : DataW.TrodAll enc Tryd.prog W 0 (fun _ => true) true Tryd.f5.params.toList args.toList ds p := hA0
  rw [Tryd.params5] at hA hval
  obtain ⟨v0, v1, v2, d0, d1, d2, p0, p1, p2, rfl, rfl, rfl, h0, h1, h2⟩ := trodAll_three hA
  obtain ⟨rfl, rfl⟩ := trodVars_none hV
  obtain ⟨ad0, le0, ca0, rfl⟩ := okWide_slice Tryd.underlying29 (hval 0 29 v0 rfl rfl)
  obtain ⟨fu0, hf0⟩ := h0
  obtain ⟨A0, c0, xs0, hv0, hc0, hm0, hR0, hwf0⟩ := open_row (v := .slice ad0 le0 ca0) Tryd.underlying29 Tryd.underlying3 (by kernel_rfl) hf0
  injection hv0 with ea0 eb0 ec0
  subst ea0 eb0 ec0
  obtain ⟨ad1, le1, ca1, rfl⟩ := okWide_slice Tryd.underlying29 (hval 1 29 v1 rfl rfl)
  obtain ⟨fu1, hf1⟩ := h1
  obtain ⟨A1, c1, xs1, hv1, hc1, hm1, hR1, hwf1⟩ := open_row (v := .slice ad1 le1 ca1) Tryd.underlying29 Tryd.underlying3 (by kernel_rfl) hf1
  injection hv1 with ea1 eb1 ec1
  subst ea1 eb1 ec1
  obtain ⟨ad2, le2, ca2, rfl⟩ := okWide_slice Tryd.underlying29 (hval 2 29 v2 rfl rfl)
  obtain ⟨fu2, hf2⟩ := h2
  obtain ⟨A2, c2, xs2, hv2, hc2, hm2, hR2, hwf2⟩ := open_row (v := .slice ad2 le2 ca2) Tryd.underlying29 Tryd.underlying3 (by kernel_rfl) hf2
  injection hv2 with ea2 eb2 ec2
  subst ea2 eb2 ec2
  refine (walk W (digs hL) ad0 ca0 xs0 hc0 hm0 hR0 ad1 ca1 xs1 hc1 hm1 hR1 ad2 ca2 xs2 hc2 hm2 hR2).mono fun e W' ⟨he, hb⟩ => ⟨_, he, ?_⟩
  exact law_post laidOut (by rw [Tryd.params5]; exact of_decide_eq_true (by kernel_rfl)) rfl rfl Tryd.underlying4 hW' rfl hb
noncomputable def laidWorld (os : Os) : World :=
  { World.holding Tryd.prog os ⟨#[], #[], []⟩ with heap := (World.holding Tryd.prog os ⟨#[], #[], []⟩).heap.modify 0 fun
      | .cells _ t frozen => .cells #[.int .u8 48, .int .u8 49, .int .u8 50, .int .u8 51, .int .u8 52, .int .u8 53, .int .u8 54, .int .u8 55, .int .u8 56, .int .u8 57, .int .u8 65, .int .u8 66, .int .u8 67, .int .u8 68, .int .u8 69, .int .u8 70] t frozen
      | o => o }
theorem laid_met (os : Os) : laidMet Tryd.prog Rows.codepointPrefixesRow.laid ((laidWorld os).forCall (fun _ _ => 0) ⟨#[], #[.slice none 0 0, .slice none 0 0, .slice none 0 0], []⟩).memory :=
  laidMet_of_run' 8 (by kernel_rfl) (by kernel_rfl)
theorem reads (os : Os) {H : Type} (enc : TypeId × Value → H) : ∃ places, DataW.whole enc Tryd.prog ((laidWorld os).forCall (fun _ _ => 0) ⟨#[], #[.slice none 0 0, .slice none 0 0, .slice none 0 0], []⟩).memory Tryd.f5.params.toList Rows.codepointPrefixesSpec.vars false (#[.slice none 0 0, .slice none 0 0, .slice none 0 0] : Array Value).toList 8 = some ([.nil, .nil, .nil], [], places) :=
  ⟨[], by kernel_rfl⟩
set_option maxRecDepth 100000 in
theorem lifted (os : Os) (started : os.Started) (H : Type) (enc : TypeId × Value → H) (F : Stop.Interp) :
    ReturnsInHanded {} Tryd.checked os 5 .any ((OpenSpec.ofChange Rows.codepointPrefixesSpec).preRow enc Tryd.prog Tryd.f5 Rows.codepointPrefixesRow.domain false Rows.codepointPrefixesRow.laid) (((OpenSpec.ofChange Rows.codepointPrefixesSpec).at F).post enc Tryd.prog Tryd.f5 false true false false) := by
  obtain ⟨places, hx⟩ := reads os enc
  refine returnsInHanded_of_row (C := Tryd.checked) (s := OpenSpec.ofChange Rows.codepointPrefixesSpec) own started (by kernel_rfl) Tryd.func5
    (witness_row_at (enc := enc) (C := Tryd.checked) false (laidWorld os) #[.slice none 0 0, .slice none 0 0, .slice none 0 0] rfl (by kernel_rfl) (by kernel_rfl) (by kernel_rfl)
      (OpenSpec.preRow_of_cond 8 hx (by kernel_rfl) (fun k hk => by cases hk) (by kernel_rfl) (laid_met os))) ?_
  intro W base args ds gs before hval hW _ _ _ hL _ _
  exact contract H enc W base args ds gs before hval hW hL
theorem said : Rows.CodepointPrefixesSaid :=
  OpenClaim.holds_of_cond 5 Tryd.f5 rfl rfl rfl rfl rfl rfl rfl ⟨rfl, rfl, rfl, rfl, rfl⟩ rfl rfl rfl rfl rfl (by kernel_rfl) Tryd.func5 (by kernel_rfl)
    (of_decide_eq_true (by kernel_rfl)) (by unfold Func.isWrapper; first | (rw [if_pos (by decide +kernel)]; kernel_rfl) | (rw [if_neg (by decide +kernel)]; exact ⟨rfl, rfl⟩))
    (fun os started H enc _ F => by rw [OpenClaim.pre_eq_preRow]; exact lifted os started H enc F)
theorem plain (f : FuncId) (fn : Func) (hf : Tryd.pinned.checked.prog.funcNamed "unicodetext/unicodetextlaw01.CodepointPrefixes" = some f) (hfn : Tryd.pinned.checked.prog.funcs[f]? = some fn) :
    false = Tryd.pinned.checked.prog.looks [] ∧ ∀ (j : Nat) t, fn.params[j]? = some t → Tryd.pinned.checked.prog.wantsStandIn t = false := by
  obtain rfl : f = 5 := Option.some.inj ((show Tryd.prog.funcNamed "unicodetext/unicodetextlaw01.CodepointPrefixes" = some 5 by kernel_rfl).symm.trans hf) |>.symm
  obtain rfl : fn = Tryd.f5 := (Option.some.inj (Tryd.func5.symm.trans hfn)).symm
  refine ⟨by kernel_rfl, fun j t ht => ?_⟩
  rw [Tryd.params5] at ht
  obtain rfl : t = 29 := by simpa using Array.mem_of_getElem? ht
  exact (show Tryd.prog.wantsStandIn 29 = false by kernel_rfl)
theorem card : Rows.CodepointPrefixesCardSaid :=
  Claim7.holds_tied_plain_at .later [] _ _ _ _ said (fun _ h => by cases h) (by kernel_rfl) (fun _ h => by cases h) codepointPrefixes_row_tie rfl ⟨rfl, rfl⟩ (by kernel_rfl) rfl plain (by kernel_rfl)
end Go.Proofs.YthljjfanmoeegaaDoor.LPrefixes
namespace Go.Proofs.YthljjfanmoeegaaDoor
theorem codepointPrefixes_holds : Rows.CodepointPrefixesCardSaid := LPrefixes.card
end Go.Proofs.YthljjfanmoeegaaDoor
