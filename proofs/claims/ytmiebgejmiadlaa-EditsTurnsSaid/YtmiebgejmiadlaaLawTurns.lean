/-
  EditsTurns: for every input the law returns true, and its arguments read as before. No condition.
-/
import Derived.Test.YtmiebgejmiadlaaRows
import Derived.Test.YtmiebgejmiadlaaEd9
import Derived.Test.YtmiebgejmiadlaaEd7
import Derived.Test.YtmiebgejmiadlaaLift
import Derived.Test.YtmiebgejmiadlaaSeq
import Derived.Test.YtmiebgejmiadlaaEdP
import Derived.Test.YtmiebgejmiadlaaEdQ
import Derived.Deep.DeepCutAuto
import Derived.BigQuiet
import Derived.IntWalk
namespace Go.Proofs.Ytmiebgejmiadlaa.LTurns
open Go.ChangeShapes Go.WideShapes Go.ChangeAt Go.RowKit Go.UtYtmiebgejmiadlaa Go.Joins
set_option maxRecDepth 100000 in
set_option maxHeartbeats 2000000 in
theorem walk (w : World) (A0 : Option Addr) (c0 : Nat) (xs0 : List Int) (hc0 : xs0.length ≤ c0) (hm0 : c0 ≤ maxLen) (hR0 : Row w w.heap.size A0 (ints xs0)) (hw0 : ∀ n ∈ xs0, -9223372036854775808 ≤ n ∧ n ≤ 9223372036854775807) (A1 : Option Addr) (c1 : Nat) (xs1 : List Int) (hc1 : xs1.length ≤ c1) (hm1 : c1 ≤ maxLen) (hR1 : Row w w.heap.size A1 (ints xs1)) (hw1 : ∀ n ∈ xs1, -9223372036854775808 ≤ n ∧ n ≤ 9223372036854775807) :
    Calls Try.prog 7 #[.slice A0 xs0.length c0, .slice A1 xs1.length c1] w fun e w' => e = .returned (.bool true) ∧ Below w.heap.size w w' := by
  have RA := Lib.hid hR0
  have RT := Lib.hid hR1
  have LA : Hid (xs0.length ≤ maxLen) := Nat.le_trans hc0 hm0
  have LB : Hid (xs1.length ≤ maxLen) := Nat.le_trans hc1 hm1
  clear hR0 hR1 hw0 hw1 hm0 hm1
  cases hd : decide ((xs0.length : Int) ≤ 60) with
  | false =>
    have HD0 := Lib.hid hd
    clear hd
    go_enter Try.func7, Try.ntmps7
    go_wp2_with fail
    refine (few_any _ _ _ _ _ HD0.out).mono ?_
    rintro e w' ⟨rfl, rfl⟩
    go_wp2_with fail
    refine (alive_any _).mono ?_
    rintro e w1 ⟨rfl, hb⟩
    have hbc := hb
    have HB1 := Lib.hid hbc
    have RA1 := Lib.hid (RA.out.below hbc).lt
    have RT1 := Lib.hid (RT.out.below hbc).lt
    clear hb hbc RA RT 
    go_wp2_with fail
    go_ret
    exact ⟨rfl, HB1.out⟩
  | true =>
    have l0 : xs0.length ≤ 60 := by have := of_decide_eq_true hd; omega
    have HD0 := Lib.hid hd
    clear hd
    cases hd : decide ((xs1.length : Int) ≤ 60) with
    | false =>
      have HD1 := Lib.hid hd
      clear hd
      go_enter Try.func7, Try.ntmps7
      go_wp2_with fail
      refine (few_any _ _ _ _ _ HD0.out).mono ?_
      rintro e w' ⟨rfl, rfl⟩
      go_wp2_with fail
      refine (few_any _ _ _ _ _ HD1.out).mono ?_
      rintro e w' ⟨rfl, rfl⟩
      go_wp2_with fail
      refine (alive_any _).mono ?_
      rintro e w1 ⟨rfl, hb⟩
      have hbc := hb
      have HB1 := Lib.hid hbc
      have RA1 := Lib.hid (RA.out.below hbc).lt
      have RT1 := Lib.hid (RT.out.below hbc).lt
      clear hb hbc RA RT 
      go_wp2_with fail
      go_ret
      exact ⟨rfl, HB1.out⟩
    | true =>
      have l1 : xs1.length ≤ 60 := by have := of_decide_eq_true hd; omega
      have HD1 := Lib.hid hd
      clear hd
      obtain ⟨i, Hi⟩ : ∃ i, Hid (lcp xs0 xs1 = i) := ⟨_, rfl⟩
      obtain ⟨d, Hd⟩ : ∃ d, Hid (xs0.length - dEnd xs0 xs1 - lcp xs0 xs1 = d) := ⟨_, rfl⟩
      obtain ⟨r, Hr⟩ : ∃ r, Hid (dIns xs0 xs1 = r) := ⟨_, rfl⟩
      obtain ⟨hid, ht⟩ := diff_turns xs0 xs1 i d r Hi.out Hd.out Hr.out
      have HT := Lib.hid ht
      clear ht
      have hrl : r.length ≤ xs1.length := by rw [← Hr.out]; unfold dIns; simp; omega
      go_enter Try.func7, Try.ntmps7
      go_wp2_with fail
      refine (few_any _ _ _ _ _ HD0.out).mono ?_
      rintro e w' ⟨rfl, rfl⟩
      go_wp2_with fail
      refine (few_any _ _ _ _ _ HD1.out).mono ?_
      rintro e w' ⟨rfl, rfl⟩
      go_wp2_with fail
      refine (diff_any A0 A1 c0 c1 _ xs0 xs1 _ RA.out RT.out (Nat.le_refl _) (by omega) (by omega) hc1 i d r Hi.out Hd.out Hr.out).mono ?_
      rintro e w1 ⟨B1, d1, rfl, -, -, hr1, -, hb⟩
      have hbc := hb
      have HB1 := Lib.hid hbc
      have RA1 := Lib.hid (RA.out.below hbc).lt
      have RT1 := Lib.hid (RT.out.below hbc).lt
      have R11 := Lib.hid hr1
      clear hb hbc RA RT 
      clear hr1
      go_wp2_with fail
      have jM1 := (Blk.new w1 24 #[.int .i64 i, .int .i64 d, .slice B1 r.length d1])
      refine (apply_ok i d B1 A0 d1 c0 _ r xs0 xs1 _ ((R11.out.below ((Below.refl _ _).alloc (Nat.le_refl _) _)).lt) ((RA1.out.below ((Below.refl _ _).alloc (Nat.le_refl _) _)).lt) (Nat.le_refl _) hc0 hid (by omega) HT.out).mono ?_
      rintro e w2 ⟨B2, d2, rfl, -, -, hr2, -, hb⟩
      have hbc : Below w1.heap.size w1 w2 := ((Below.refl _ _).alloc (Nat.le_refl _) _).trans (hb.mono (by simp; try omega))
      have HB2 := Lib.hid (below_then HB1.out hbc (Nat.le_refl _))
      have M12 := Lib.hid (jM1.after hb)
      have RA2 := Lib.hid (RA1.out.below hbc).lt
      have RT2 := Lib.hid (RT1.out.below hbc).lt
      have R12 := Lib.hid (R11.out.below hbc).lt
      have R22 := Lib.hid hr2
      clear hb hbc HB1 jM1 RA1 RT1 R11 
      clear hr2
      obtain ⟨fM10, fM11, fM12⟩ := M12.out.cells3
      have qM1 := M12.out.lt
      go_wp2_with fail
      refine (equal_below B2 A1 d2 c1 _ xs1 xs1 _ R22.out RT2.out LB.out LB.out).mono ?_
      rintro e w3 ⟨rfl, hb⟩
      have hbc := hb
      have HB3 := Lib.hid (below_then HB2.out hbc (Nat.le_refl _))
      have M13 := Lib.hid (M12.out.after hbc)
      have RA3 := Lib.hid (RA2.out.below hbc).lt
      have RT3 := Lib.hid (RT2.out.below hbc).lt
      have R13 := Lib.hid (R12.out.below hbc).lt
      have R23 := Lib.hid (R22.out.below hbc).lt
      clear hb hbc HB2 M12 RA2 RT2 R12 R22 fM10 fM11 fM12 qM1
      have hz : (cmpL xs1 xs1 == 0) = true := by rw [cmpL_refl]; rfl
      obtain ⟨fM10, fM11, fM12⟩ := M13.out.cells3
      have qM1 := M13.out.lt
      go_upto_region 8 with fail
      clear hz
      go_cut [74] (fun s wx => s = .bool false ∧ Hid (∃ m, wx = w3.drewN m))
      case first =>
        by_cases h1 : 0 < d
        · by_cases h2 : 0 < r.length
          · obtain ⟨p, hp⟩ : ∃ p, p + 1 = i + d := ⟨i + d - 1, by omega⟩
            obtain ⟨q, hq⟩ : ∃ q, q + 1 = r.length := ⟨r.length - 1, by omega⟩
            obtain ⟨ga, oa, xa, ea, -, hxa, hca⟩ := RA3.out.at_int (k := i) (by omega)
            obtain ⟨gb, ob, xb, eb, -, hxb, hcb⟩ := RA3.out.at_int (k := p) (by omega)
            obtain ⟨gc, oc, xc, ec, -, hxc, hcc⟩ := R13.out.at_int (k := 0) h2
            rw [Nat.add_zero] at hcc
            obtain ⟨gd, od, xd, ed, -, hxd, hcd⟩ := R13.out.at_int (k := q) (by omega)
            have n1 := diff_first Hi.out Hr.out hxa.out hxc.out
            have n2 := diff_last Hi.out Hd.out Hr.out hp h1 hxb.out (by rw [show r.length - 1 = q by omega]; exact hxd.out)
            subst ea
            obtain ⟨rfl, rfl⟩ : ga = gb ∧ oa = ob := by injection eb with eb; injection eb with e1 e2; exact ⟨e1, e2⟩
            subst ec
            obtain ⟨rfl, rfl⟩ : gc = gd ∧ oc = od := by injection ed with ed; injection ed with e1 e2; exact ⟨e1, e2⟩
            clear eb ed hxa hxb hxc hxd
            have k0 : decide ((0 : Int) < (d : Int)) = true := decide_eq_true (by omega)
            have k1 : decide ((0 : Int) < (r.length : Int)) = true := decide_eq_true (by omega)
            have k2 : (0 : Int) < (d : Int) := by omega
            have k3 : (0 : Int) < (r.length : Int) := by omega
            have i0 : (i : Int) < (xs0.length : Int) := by omega
            have p0 : (p : Int) < (xs0.length : Int) := by omega
            have q0 : (q : Int) < (r.length : Int) := by omega
            have w1e : IntKind.i64.wrap ((i : Int) + (d : Int)) = (i : Int) + (d : Int) := IntWalk.i64_in _ (by omega)
            have w2e : IntKind.i64.wrap ((i : Int) + (d : Int) - 1) = (p : Int) := by rw [IntWalk.i64_in _ (by omega)]; omega
            have w3e : IntKind.i64.wrap ((r.length : Int) - 1) = (q : Int) := by rw [IntWalk.i64_in _ (by omega)]; omega
            generalize r.length = nr at *
            clear hp hq
            go_quiet (fail)
            go_wp2
            go_meet
            exact ⟨rfl, _, rfl⟩
          · have k0 : decide ((0 : Int) < (d : Int)) = true := decide_eq_true (by omega)
            have k2 : (0 : Int) < (d : Int) := by omega
            obtain rfl : r = [] := List.eq_nil_of_length_eq_zero (by omega)
            go_quiet (fail)
            go_wp2
            go_meet
            exact ⟨rfl, _, rfl⟩
        · obtain rfl : d = 0 := by omega
          go_quiet (fail)
          go_wp2
          go_meet
          exact ⟨rfl, _, rfl⟩
      case rest =>
        obtain ⟨rfl, m, rfl⟩ := hcut
        by_cases heq : xs0 = xs1
        · subst heq
          obtain ⟨s1, s2, s3⟩ := diff_same xs0
          obtain rfl : i = xs0.length := by have := Hi.out; omega
          obtain rfl : d = 0 := by have := Hd.out; omega
          obtain rfl : r = [] := by have := Hr.out; rw [← this]; exact s3
          clear s1 s2 s3
          have hz : (cmpL xs0 xs0 == 0) = true := by rw [cmpL_refl]; rfl
          go_wp2_with fail
          refine (equal_below A0 A1 c0 c1 _ xs0 xs0 _ (RA3.out.drewN m) (RT3.out.drewN m) LA.out LA.out).mono ?_
          rintro e w9 ⟨rfl, hb⟩
          obtain ⟨fM10, fM11, fM12⟩ := ((M13.out.drewN m).after hb).cells3
          have HB9 := Lib.hid (below_then (below_drewN HB3.out m) hb (Nat.le_refl _))
          clear hb
          go_wp2_with fail
          refine (alive_any _).mono ?_
          rintro e w10 ⟨rfl, hb⟩
          have HB10 := Lib.hid (below_then HB9.out hb (Nat.le_refl _))
          clear hb
          go_wp2_with fail
          go_ret
          exact ⟨rfl, HB10.out⟩
        · have hz : (cmpL xs0 xs1 == 0) = false := by rw [cmpL_beq]; simpa using heq
          clear heq
          go_wp2_with fail
          refine (equal_below A0 A1 c0 c1 _ xs0 xs1 _ (RA3.out.drewN m) (RT3.out.drewN m) LA.out LB.out).mono ?_
          rintro e w9 ⟨rfl, hb⟩
          obtain ⟨fM10, fM11, fM12⟩ := ((M13.out.drewN m).after hb).cells3
          have HB9 := Lib.hid (below_then (below_drewN HB3.out m) hb (Nat.le_refl _))
          clear hb
          go_wp2_with fail
          refine (alive_any _).mono ?_
          rintro e w10 ⟨rfl, hb⟩
          have HB10 := Lib.hid (below_then HB9.out hb (Nat.le_refl _))
          clear hb
          go_wp2_with fail
          go_ret
          exact ⟨rfl, HB10.out⟩
theorem own : ownKnob Try.prog.godebug = none := by kernel_rfl
theorem laidOut : laidOutB Try.prog = true := by kernel_rfl
set_option maxRecDepth 100000 in
theorem lifted (os : Os) (started : os.Started) (H : Type) (enc : TypeId × Value → H) :
    ReturnsInHanded {} Try.checked os 7 .any (Rows.editsTurnsSpec.pre6 enc Try.prog Try.f7 Rows.editsTurnsRow.domain false) (Rows.editsTurnsSpec.post enc Try.prog Try.f7 false true false false) := by
  refine returnsInHanded_of_change (C := Try.checked) own started (by kernel_rfl) Try.func7
    (ChangeSpec.witness6 (enc := enc) (C := Try.checked) false ⟨#[], #[.slice none 0 0, .slice none 0 0], []⟩ 8 (by kernel_rfl) (by kernel_rfl) (by kernel_rfl) (by kernel_rfl)) ?_
  intro W base args ds gs before hval0 hW hcnd _
  have hval : ∀ (j : Nat) t v, Try.f7.params[j]? = some t → args[j]? = some v → Value.okWide Try.prog W .any base t v := hval0
  have hW' := hW
  obtain ⟨p, q, hA0, hV, rfl, hfz, hnd⟩ := hW
  have hA : DataW.TrodAll enc Try.prog W 0 (fun _ => true) true Try.f7.params.toList args.toList ds p := hA0
  rw [Try.params7] at hA hval
  obtain ⟨v0, v1, d0, d1, p0, p1, rfl, rfl, rfl, h0, h1⟩ := trodAll_two hA
  obtain ⟨rfl, rfl⟩ := trodVars_none hV
  obtain ⟨ad0, le0, ca0, rfl⟩ := okWide_slice Try.underlying22 (hval 0 22 v0 rfl rfl)
  obtain ⟨fu0, hf0⟩ := h0
  obtain ⟨A0, c0, xs0, hv0, hc0, hm0, hR0, hwf0⟩ := open_row (v := .slice ad0 le0 ca0) Try.underlying22 Try.underlying3 (by kernel_rfl) hf0
  injection hv0 with ea0 eb0 ec0
  subst ea0 eb0 ec0
  obtain ⟨ad1, le1, ca1, rfl⟩ := okWide_slice Try.underlying22 (hval 1 22 v1 rfl rfl)
  obtain ⟨fu1, hf1⟩ := h1
  obtain ⟨A1, c1, xs1, hv1, hc1, hm1, hR1, hwf1⟩ := open_row (v := .slice ad1 le1 ca1) Try.underlying22 Try.underlying3 (by kernel_rfl) hf1
  injection hv1 with ea1 eb1 ec1
  subst ea1 eb1 ec1
  refine (walk W ad0 ca0 xs0 hc0 hm0 hR0 (fun n hn => wf_i64 (hwf0 n hn)) ad1 ca1 xs1 hc1 hm1 hR1 (fun n hn => wf_i64 (hwf1 n hn))).mono fun e W' ⟨he, hb⟩ => ⟨_, he, ?_⟩
  exact law_post laidOut (by rw [Try.params7]; exact of_decide_eq_true (by kernel_rfl)) rfl rfl Try.underlying4 hW' rfl hb
theorem holds : Rows.EditsTurnsSaid :=
  OpenClaim.holds_of_wide 7 Try.f7 rfl rfl rfl rfl rfl rfl rfl ⟨rfl, rfl, rfl, rfl, rfl⟩ rfl rfl rfl rfl rfl (by kernel_rfl) Try.func7 (by kernel_rfl)
    (of_decide_eq_true (by kernel_rfl)) (by unfold Func.isWrapper; first | (rw [if_pos (by decide +kernel)]; kernel_rfl) | (rw [if_neg (by decide +kernel)]; exact ⟨rfl, rfl⟩))
    (fun os started H enc _ => lifted os started H enc)
end Go.Proofs.Ytmiebgejmiadlaa.LTurns
namespace Go.Proofs.Ytmiebgejmiadlaa
theorem editsTurns_holds : Rows.EditsTurnsSaid := LTurns.holds
end Go.Proofs.Ytmiebgejmiadlaa
