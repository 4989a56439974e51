/-
  EditsMoves: for every input the law returns true, and its arguments read as before. No condition.
-/
import Derived.Test.YtmiebgejmiadlaaRows
import Derived.Test.YtmiebgejmiadlaaEd9
import Derived.Test.YtmiebgejmiadlaaEd7
import Derived.Test.YtmiebgejmiadlaaLift
import Derived.Test.YtmiebgejmiadlaaSeq
import Derived.Test.YtmiebgejmiadlaaEdP
import Derived.Test.YtmiebgejmiadlaaEdQ
import Derived.Deep.DeepCutAuto
import Derived.BigQuiet
import Derived.IntWalk
namespace Go.Proofs.Ytmiebgejmiadlaa.LMoves
open Go.ChangeShapes Go.WideShapes Go.ChangeAt Go.RowKit Go.UtYtmiebgejmiadlaa Go.Joins
set_option maxRecDepth 100000 in
set_option maxHeartbeats 2000000 in
theorem walk (w : World) (x0 y0 : Int) (A0 : Option Addr) (c0 : Nat) (xs0 : List Int) (hx0 : -9223372036854775808 ≤ x0 ∧ x0 ≤ 9223372036854775807) (hy0 : -9223372036854775808 ≤ y0 ∧ y0 ≤ 9223372036854775807) (hc0 : xs0.length ≤ c0) (hm0 : c0 ≤ maxLen) (hR0 : Row w w.heap.size A0 (ints xs0)) (A1 : Option Addr) (c1 : Nat) (xs1 : List Int) (hc1 : xs1.length ≤ c1) (hm1 : c1 ≤ maxLen) (hR1 : Row w w.heap.size A1 (ints xs1)) (hw1 : ∀ n ∈ xs1, -9223372036854775808 ≤ n ∧ n ≤ 9223372036854775807) :
    Calls Try.prog 9 #[.agg #[.int .i64 x0, .int .i64 y0, .slice A0 xs0.length c0], .slice A1 xs1.length c1] w fun e w' => e = .returned (.bool true) ∧ Below w.heap.size w w' := by
  have RA := Lib.hid hR0
  have RT := Lib.hid hR1
  clear hR0 hR1 hw1
  cases hd : decide ((xs0.length : Int) ≤ 40) with
  | false =>
    have HD0 := Lib.hid hd
    clear hd
    go_enter Try.func9, Try.ntmps9
    go_wp2_with fail
    have jKX := (Blk.new w 24 #[.int .i64 x0, .int .i64 y0, .slice A0 xs0.length c0])
    refine (small_any _ _ _ _ _ _ _ HD0.out).mono ?_
    rintro e w1 ⟨rfl, hb⟩
    have hbc : Below w.heap.size w w1 := ((Below.refl _ _).alloc (Nat.le_refl _) _).trans (hb.mono (by simp; try omega))
    have HB1 := Lib.hid hbc
    have KX1 := Lib.hid (jKX.after hb)
    have RA1 := Lib.hid (RA.out.below hbc).lt
    have RT1 := Lib.hid (RT.out.below hbc).lt
    clear hb hbc jKX RA RT 
    obtain ⟨fKX0, fKX1, fKX2⟩ := KX1.out.cells3
    have qKX := KX1.out.lt
    go_wp2_with fail
    go_wp2_with fail
    refine (alive_any _).mono ?_
    rintro e w2 ⟨rfl, hb⟩
    have hbc := hb
    have HB2 := Lib.hid (below_then HB1.out hbc (Nat.le_refl _))
    have KX2 := Lib.hid (KX1.out.after hbc)
    have RA2 := Lib.hid (RA1.out.below hbc).lt
    have RT2 := Lib.hid (RT1.out.below hbc).lt
    clear hb hbc HB1 KX1 RA1 RT1 fKX0 fKX1 fKX2 qKX
    obtain ⟨fKX0, fKX1, fKX2⟩ := KX2.out.cells3
    have qKX := KX2.out.lt
    go_wp2_with fail
    go_ret
    exact ⟨rfl, HB2.out⟩
  | true =>
    have l0 : xs0.length ≤ 40 := by have := of_decide_eq_true hd; omega
    have HD0 := Lib.hid hd
    clear hd
    cases hd : decide ((xs1.length : Int) ≤ 60) with
    | false =>
      have HD1 := Lib.hid hd
      clear hd
      go_enter Try.func9, Try.ntmps9
      go_wp2_with fail
      have jKX := (Blk.new w 24 #[.int .i64 x0, .int .i64 y0, .slice A0 xs0.length c0])
      refine (small_any _ _ _ _ _ _ _ HD0.out).mono ?_
      rintro e w1 ⟨rfl, hb⟩
      have hbc : Below w.heap.size w w1 := ((Below.refl _ _).alloc (Nat.le_refl _) _).trans (hb.mono (by simp; try omega))
      have HB1 := Lib.hid hbc
      have KX1 := Lib.hid (jKX.after hb)
      have RA1 := Lib.hid (RA.out.below hbc).lt
      have RT1 := Lib.hid (RT.out.below hbc).lt
      clear hb hbc jKX RA RT 
      obtain ⟨fKX0, fKX1, fKX2⟩ := KX1.out.cells3
      have qKX := KX1.out.lt
      go_wp2_with fail
      refine (few_any _ _ _ _ _ HD1.out).mono ?_
      rintro e w' ⟨rfl, rfl⟩
      go_wp2_with fail
      refine (alive_any _).mono ?_
      rintro e w2 ⟨rfl, hb⟩
      have hbc := hb
      have HB2 := Lib.hid (below_then HB1.out hbc (Nat.le_refl _))
      have KX2 := Lib.hid (KX1.out.after hbc)
      have RA2 := Lib.hid (RA1.out.below hbc).lt
      have RT2 := Lib.hid (RT1.out.below hbc).lt
      clear hb hbc HB1 KX1 RA1 RT1 fKX0 fKX1 fKX2 qKX
      obtain ⟨fKX0, fKX1, fKX2⟩ := KX2.out.cells3
      have qKX := KX2.out.lt
      go_wp2_with fail
      go_ret
      exact ⟨rfl, HB2.out⟩
    | true =>
      have l1 : xs1.length ≤ 60 := by have := of_decide_eq_true hd; omega
      have HD1 := Lib.hid hd
      clear hd
      go_enter Try.func9, Try.ntmps9
      go_wp2_with fail
      have jKX := (Blk.new w 24 #[.int .i64 x0, .int .i64 y0, .slice A0 xs0.length c0])
      refine (small_any _ _ _ _ _ _ _ HD0.out).mono ?_
      rintro e w1 ⟨rfl, hb⟩
      have hbc : Below w.heap.size w w1 := ((Below.refl _ _).alloc (Nat.le_refl _) _).trans (hb.mono (by simp; try omega))
      have HB1 := Lib.hid hbc
      have KX1 := Lib.hid (jKX.after hb)
      have RA1 := Lib.hid (RA.out.below hbc).lt
      have RT1 := Lib.hid (RT.out.below hbc).lt
      clear hb hbc jKX RA RT 
      obtain ⟨fKX0, fKX1, fKX2⟩ := KX1.out.cells3
      have qKX := KX1.out.lt
      go_wp2_with fail
      refine (few_any _ _ _ _ _ HD1.out).mono ?_
      rintro e w' ⟨rfl, rfl⟩
      go_wp2_with fail
      by_cases hk : checkB x0 y0 xs1.length = 1
      · have HK := Lib.hid hk
        clear hk
        refine (apply_no x0 y0 A0 A1 xs0.length c0 c1 xs1.length _ HK.out).mono ?_
        rintro e w2 ⟨B1, d1, rfl, -, -, -, -, hb⟩
        have hbc := hb
        have HB2 := Lib.hid (below_then HB1.out hbc (Nat.le_refl _))
        have KX2 := Lib.hid (KX1.out.after hbc)
        have RA2 := Lib.hid (RA1.out.below hbc).lt
        have RT2 := Lib.hid (RT1.out.below hbc).lt
        clear hb hbc HB1 KX1 RA1 RT1 fKX0 fKX1 fKX2 qKX
        obtain ⟨fKX0, fKX1, fKX2⟩ := KX2.out.cells3
        have qKX := KX2.out.lt
        go_wp2_with fail
        refine (alive_any _).mono ?_
        rintro e w3 ⟨rfl, hb⟩
        have hbc := hb
        have HB3 := Lib.hid (below_then HB2.out hbc (Nat.le_refl _))
        have KX3 := Lib.hid (KX2.out.after hbc)
        have RA3 := Lib.hid (RA2.out.below hbc).lt
        have RT3 := Lib.hid (RT2.out.below hbc).lt
        clear hb hbc HB2 KX2 RA2 RT2 fKX0 fKX1 fKX2 qKX
        obtain ⟨fKX0, fKX1, fKX2⟩ := KX3.out.cells3
        have qKX := KX3.out.lt
        go_wp2_with fail
        go_ret
        exact ⟨rfl, HB3.out⟩
      · obtain ⟨i, d, rfl, rfl, hid⟩ := checkB_nat (by omega) hk
        clear hk
        obtain ⟨r, H1⟩ : ∃ r, Hid (xs1.take i ++ xs0 ++ xs1.drop (i + d) = r) := ⟨_, rfl⟩
        have hl1 : r.length = xs1.length - d + xs0.length := by rw [← H1.out]; simp; omega
        have HL1 := Lib.hid hl1
        clear hl1
        refine (apply_ok i d A0 A1 c0 c1 _ xs0 xs1 r _ RA1.out RT1.out (Nat.le_refl _) hc1 hid (by omega) H1.out).mono ?_
        rintro e w2 ⟨B1, d1, rfl, hd1, hm1b, hr1, -, hb⟩
        have hbc := hb
        have HB2 := Lib.hid (below_then HB1.out hbc (Nat.le_refl _))
        have KX2 := Lib.hid (KX1.out.after hbc)
        have RA2 := Lib.hid (RA1.out.below hbc).lt
        have RT2 := Lib.hid (RT1.out.below hbc).lt
        have R12 := Lib.hid hr1
        clear hb hbc HB1 KX1 RA1 RT1 fKX0 fKX1 fKX2 qKX
        clear hr1
        obtain ⟨fKX0, fKX1, fKX2⟩ := KX2.out.cells3
        have qKX := KX2.out.lt
        go_wp2_with fail
        clear fKX0 fKX1 fKX2 qKX
        have rl : r.length ≤ 100 := by have := HL1.out; omega
        go_loopw [7, 8] (fun la ii wr => ∃ p l : Nat, p ≤ xs1.length + 1 ∧ ii = .int .i64 p ∧ la = .int .i64 l ∧ l ≤ shiftN i d xs0.length p ∧ Hid (Blk wr w.heap.size 24 #[.int .i64 i, .int .i64 d, .slice A0 xs0.length c0]) ∧ Hid (Row wr wr.heap.size A1 (ints xs1)) ∧ Hid (Row wr wr.heap.size B1 (ints r)) ∧ Hid (Below w.heap.size w wr)) (fun _ ii _ => xs1.length + 1 - (intOf ii).toNat)
        case atStart => exact ⟨0, 0, by omega, rfl, rfl, Nat.zero_le _, KX2.out, RT2.out, R12.out, HB2.out⟩
        clear KX2 RT2 R12 HB2 RA2
        case round =>
          obtain ⟨p, l, hp, rfl, rfl, hl, KX, RT, R1, HB⟩ := hrel
          obtain ⟨f0, f1, f2⟩ := KX.out.cells3
          by_cases hpn : p ≤ xs1.length
          · obtain ⟨k, Hk⟩ : ∃ k, Hid (shiftN i d xs0.length p = k) := ⟨_, rfl⟩
            have hlk : l ≤ k := by rw [← Hk.out]; exact hl
            have hkr : k ≤ r.length := by rw [← Hk.out, HL1.out]; exact shiftN_le i d xs0.length p xs1.length hid hpn
            have hk0 : p = 0 → k = 0 := fun e => by rw [← Hk.out, e]; exact shiftN_zero _ _ _
            have HK0 := Lib.hid hk0
            clear hk0
            have HS : Hid (shiftZ (i : Int) (d : Int) xs0.length (p : Int) = (k : Int)) := by
              show _ = _
              rw [← Hk.out]
              unfold shiftZ shiftN
              by_cases e1 : p ≤ i
              · rw [if_pos (by omega), if_pos e1]
              · rw [if_neg (by omega), if_neg e1]
                by_cases e2 : i + d ≤ p
                · rw [if_pos (by omega), if_pos e2]; omega
                · rw [if_neg (by omega), if_neg e2]
            clear hl
            go_wp2_with fail
            refine (shift_any _ _ _ _ _ _ _ (by omega) (by omega) (by omega) (by omega) (k : Int) HS.out).mono ?_
            rintro e w5 ⟨rfl, hb⟩
            have KX' := Lib.hid (KX.out.after hb)
            have RT' := Lib.hid (RT.out.below hb).lt
            have R1' := Lib.hid (R1.out.below hb).lt
            have HB' := Lib.hid (below_then HB.out hb (Nat.le_refl _))
            clear hb KX RT R1 HB f0 f1 f2
            obtain ⟨f0, f1, f2⟩ := KX'.out.cells3
            have g1 : decide ((k : Int) < (l : Int)) = false := by simp; omega
            have g2 : decide ((r.length : Int) < (k : Int)) = false := by simp; omega
            have g1n : decide (k < l) = false := by simp; omega
            have g2n : decide (r.length < k) = false := by simp; omega
            go_upto_region 11 with fail
            go_cut [53] (fun s wx => s = .bool false ∧ Hid (w5 = wx))
            case first =>
              by_cases e0 : p = 0
              · have e1 : k = 0 := HK0.out e0
                subst e0 e1
                go_wp2_with fail
                go_meet
                exact ⟨rfl, rfl⟩
              · have e1 : ((p : Int) == 0) = false := by simp; omega
                have e1n : (p == 0) = false := by simp; omega
                go_wp2_with fail
                go_meet
                exact ⟨rfl, rfl⟩
            case rest =>
              obtain ⟨rfl, hw⟩ := hcut
              have hw := hw.out
              subst hw
              clear g1 g2 g1n g2n
              go_upto_region 13 with fail
              go_cut [78] (fun s wx => s = .bool false ∧ Hid (∃ m, wx = w5.drewN m))
              case first =>
                by_cases e0 : p = 0
                · have z0 : decide ((0 : Int) < (p : Int)) = false := decide_eq_false (by omega)
                  have z0n : decide (0 < p) = false := decide_eq_false (by omega)
                  clear e0
                  go_quiet (fail)
                  go_wp2
                  go_meet
                  exact ⟨rfl, _, rfl⟩
                · obtain ⟨p', rfl⟩ : ∃ p', p = p' + 1 := ⟨p - 1, by omega⟩
                  have z0 : (0 : Int) < (p' : Int) + 1 := by omega
                  by_cases e1 : p' + 1 ≤ i
                  · have e2 : k = p' + 1 := by rw [← Hk.out]; exact shiftN_low _ _ _ _ e1
                    subst e2
                    obtain ⟨ga, oa, xa, rfl, -, hxa, hca⟩ := RT'.out.at_int (k := p') (by omega)
                    obtain ⟨gb, ob, xb, rfl, -, hxb, hcb⟩ := R1'.out.at_int (k := p') (by omega)
                    have e3 : xb = xa := by have h1 := moved_low (ins := xs0) hid (show p' < i by omega) hxa.out; rw [H1.out] at h1; have h2 := hxb.out; rw [h1] at h2; injection h2 with h2; exact h2.symm
                    subst e3
                    clear hxa hxb
                    have z1 : decide ((p' : Int) + 1 < 1) = false := decide_eq_false (by omega)
                    have z2 : (p' : Int) + 1 ≤ (i : Int) := by omega
                    have z3 : IntKind.i64.wrap ((p' : Int) + 1 - 1) = (p' : Int) := by rw [IntWalk.i64_in _ (by omega)]; omega
                    have z4 : (p' : Int) < (xs1.length : Int) := by omega
                    have z5 : (p' : Int) < (r.length : Int) := by omega
                    have z6 : decide ((p' : Int) + 1 ≤ (i : Int)) = true := decide_eq_true (by omega)
                    have z7 : decide ((p' : Int) < (i : Int)) = true := decide_eq_true (by omega)
                    have z8 : decide (p' < i) = true := decide_eq_true (by omega)
                    have z9 : p' < i := by omega
                    go_quiet (fail)
                    go_wp2
                    go_meet
                    exact ⟨rfl, _, rfl⟩
                  · have z1 : decide ((p' : Int) + 1 ≤ (i : Int)) = false := decide_eq_false (by omega)
                    have z7 : decide ((p' : Int) < (i : Int)) = false := decide_eq_false (by omega)
                    have z8 : decide (p' < i) = false := decide_eq_false (by omega)
                    go_quiet (fail)
                    go_wp2
                    go_meet
                    exact ⟨rfl, _, rfl⟩
              case rest =>
                obtain ⟨rfl, m, rfl⟩ := hcut
                go_upto_region 15 with fail
                go_cut [114] (fun s wx => s = .bool false ∧ Hid (∃ m, wx = w5.drewN m))
                case first =>
                  have ws : IntKind.i64.wrap ((i : Int) + (d : Int)) = (i : Int) + (d : Int) := IntWalk.i64_in _ (by omega)
                  have WS := Lib.hid ws
                  clear ws
                  by_cases e0 : p < xs1.length
                  · have z0 : (p : Int) < (xs1.length : Int) := by omega
                    have z0n : decide (p < xs1.length) = true := decide_eq_true e0
                    by_cases e1 : i + d ≤ p
                    · have z1 : (i : Int) + (d : Int) ≤ (p : Int) := by omega
                      have z1b : decide ((i : Int) + (d : Int) ≤ (p : Int)) = true := decide_eq_true z1
                      by_cases e2 : i < p
                      · have z2 : (i : Int) < (p : Int) := by omega
                        have z2n : decide (i < p) = true := decide_eq_true e2
                        have e3 : k = p - d + xs0.length := by rw [← Hk.out]; exact shiftN_high _ _ _ _ e2 e1
                        have z3 : (k : Int) < (r.length : Int) := by have := HL1.out; omega
                        have z4 : ((k : Int) == (r.length : Int)) = false := by rw [beq_eq_false_iff_ne]; omega
                        have z4n : (k == r.length) = false := by rw [beq_eq_false_iff_ne]; omega
                        have z4p : ¬ k = r.length := by omega
                        obtain ⟨ga, oa, xa, rfl, -, hxa, hca⟩ := RT'.out.at_int (k := p) e0
                        obtain ⟨gb, ob, xb, rfl, -, hxb, hcb⟩ := R1'.out.at_int (k := k) (by omega)
                        have e4 : xb = xa := by have h1 := moved_high (ins := xs0) hid e1 hxa.out; rw [H1.out, ← e3] at h1; have h2 := hxb.out; rw [h1] at h2; injection h2 with h2; exact h2.symm
                        subst e4
                        clear hxa hxb e3
                        have ws := WS.out
                        go_quiet (fail)
                        go_wp2
                        go_meet
                        exact ⟨rfl, _, rfl⟩
                      · have z2 : decide ((i : Int) < (p : Int)) = false := decide_eq_false (by omega)
                        have z2n : decide (i < p) = false := decide_eq_false (by omega)
                        have ws := WS.out
                        go_quiet (fail)
                        go_wp2
                        go_meet
                        exact ⟨rfl, _, rfl⟩
                    · have z1b : decide ((i : Int) + (d : Int) ≤ (p : Int)) = false := decide_eq_false (by omega)
                      have ws := WS.out
                      go_quiet (fail)
                      go_wp2
                      go_meet
                      exact ⟨rfl, _, rfl⟩
                  · have z0 : decide ((p : Int) < (xs1.length : Int)) = false := decide_eq_false (by omega)
                    have z0n : decide (p < xs1.length) = false := decide_eq_false e0
                    have ws := WS.out
                    go_quiet (fail)
                    go_wp2
                    go_meet
                    exact ⟨rfl, _, rfl⟩
                case rest =>
                  obtain ⟨rfl, m', rfl⟩ := hcut
                  go_wp2_with fail
                  go_roundw
                  case rel => exact ⟨p + 1, k, by omega, by go_num, rfl, by rw [← Hk.out]; exact shiftN_mono _ _ _ _, KX'.out.drewN m', RT'.out.drewN m', R1'.out.drewN m', below_drewN HB'.out m'⟩
                  case measure => simp [intOf]; omega
          · have hn : ((p : Int) ≤ (xs1.length : Int)) = False := by simp; omega
            go_wp2_with fail
            refine (alive_any _).mono ?_
            rintro e w6 ⟨rfl, hb⟩
            have HB6 := Lib.hid (below_then HB.out hb (Nat.le_refl _))
            clear hb
            go_wp2_with fail
            go_ret
            exact ⟨rfl, HB6.out⟩
theorem own : ownKnob Try.prog.godebug = none := by kernel_rfl
theorem laidOut : laidOutB Try.prog = true := by kernel_rfl
set_option maxRecDepth 100000 in
theorem lifted (os : Os) (started : os.Started) (H : Type) (enc : TypeId × Value → H) :
    ReturnsInHanded {} Try.checked os 9 .any (Rows.editsMovesSpec.pre6 enc Try.prog Try.f9 Rows.editsMovesRow.domain false) (Rows.editsMovesSpec.post enc Try.prog Try.f9 false true false false) := by
  refine returnsInHanded_of_change (C := Try.checked) own started (by kernel_rfl) Try.func9
    (ChangeSpec.witness6 (enc := enc) (C := Try.checked) false ⟨#[], #[.agg #[.int .i64 0, .int .i64 0, .slice none 0 0], .slice none 0 0], []⟩ 8 (by kernel_rfl) (by kernel_rfl) (by kernel_rfl) (by kernel_rfl)) ?_
  intro W base args ds gs before hval0 hW hcnd _
  have hval : ∀ (j : Nat) t v, Try.f9.params[j]? = some t → args[j]? = some v → Value.okWide Try.prog W .any base t v := hval0
  have hW' := hW
  obtain ⟨p, q, hA0, hV, rfl, hfz, hnd⟩ := hW
  have hA : DataW.TrodAll enc Try.prog W 0 (fun _ => true) true Try.f9.params.toList args.toList ds p := hA0
  rw [Try.params9] at hA hval
  obtain ⟨v0, v1, d0, d1, p0, p1, rfl, rfl, rfl, h0, h1⟩ := trodAll_two hA
  obtain ⟨rfl, rfl⟩ := trodVars_none hV
  obtain ⟨a00, a01, a02, y00, y01, y02, n0, rfl, rfl, rfl, g00, g01, g02⟩ := open_agg3 Try.underlying24 (by kernel_rfl) (by kernel_rfl) (hval 0 24 v0 rfl rfl) h0
  obtain ⟨x0, hx0, -, wx0⟩ := DataW.trod_int Try.underlying3 g00
  obtain ⟨z0, hz0, -, wz0⟩ := DataW.trod_int Try.underlying3 g01
  obtain ⟨A0, c0, xs0, rfl, hc0, hm0, hR0, hwf0⟩ := open_row Try.underlying22 Try.underlying3 (by kernel_rfl) g02
  injection hx0 with hx0
  injection hz0 with hz0
  subst hx0 hz0
  obtain ⟨ad1, le1, ca1, rfl⟩ := okWide_slice Try.underlying22 (hval 1 22 v1 rfl rfl)
  obtain ⟨fu1, hf1⟩ := h1
  obtain ⟨A1, c1, xs1, hv1, hc1, hm1, hR1, hwf1⟩ := open_row (v := .slice ad1 le1 ca1) Try.underlying22 Try.underlying3 (by kernel_rfl) hf1
  injection hv1 with ea1 eb1 ec1
  subst ea1 eb1 ec1
  refine (walk W x0 z0 A0 c0 xs0 (wf_i64 wx0) (wf_i64 wz0) hc0 hm0 hR0 ad1 ca1 xs1 hc1 hm1 hR1 (fun n hn => wf_i64 (hwf1 n hn))).mono fun e W' ⟨he, hb⟩ => ⟨_, he, ?_⟩
  exact law_post laidOut (by rw [Try.params9]; exact of_decide_eq_true (by kernel_rfl)) rfl rfl Try.underlying4 hW' rfl hb
theorem holds : Rows.EditsMovesSaid :=
  OpenClaim.holds_of_wide 9 Try.f9 rfl rfl rfl rfl rfl rfl rfl ⟨rfl, rfl, rfl, rfl, rfl⟩ rfl rfl rfl rfl rfl (by kernel_rfl) Try.func9 (by kernel_rfl)
    (of_decide_eq_true (by kernel_rfl)) (by unfold Func.isWrapper; first | (rw [if_pos (by decide +kernel)]; kernel_rfl) | (rw [if_neg (by decide +kernel)]; exact ⟨rfl, rfl⟩))
    (fun os started H enc _ => lifted os started H enc)
end Go.Proofs.Ytmiebgejmiadlaa.LMoves
namespace Go.Proofs.Ytmiebgejmiadlaa
theorem editsMoves_holds : Rows.EditsMovesSaid := LMoves.holds
end Go.Proofs.Ytmiebgejmiadlaa
