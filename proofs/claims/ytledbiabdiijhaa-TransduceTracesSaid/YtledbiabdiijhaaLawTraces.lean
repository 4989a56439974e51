/-
  TransduceTraces: for every input the law returns true, and its arguments read as before. No condition.
-/
import Derived.Test.YtledbiabdiijhaaRows
import Derived.Test.YtledbiabdiijhaaLift
import Derived.Test.YtledbiabdiijhaaTlo
import Derived.Test.YtledbiabdiijhaaTu4
import Derived.Test.YtledbiabdiijhaaTu5
import Derived.Test.YtledbiabdiijhaaTu6
import Derived.Deep.CutBlock
import Derived.ChangeKeysEq
namespace Go.Proofs.Ytledbiabdiijhaa.LTraces
open Go.ChangeShapes Go.WideShapes Go.ChangeAt Go.RowKit Go.UtYtledbiabdiijhaa Go.Joins
theorem run_neq_t3 (w : World) (a b c a' b' c' : Int) (v : Bool) (hv : (!(a == a' && (b == b' && c == c'))) = v) : (binOp .neq 46 (.agg #[.int .i64 a, .int .i64 b, .int .i64 c]) (.agg #[.int .i64 a', .int .i64 b', .int .i64 c'])).run Try.prog w = .ok (.bool v) w := by
  obtain ⟨i0, hi0, hz0, hz1, hz2⟩ := info_parts in_info
  rw [run_neq_struct, show (10000 : Nat) = 9999 + 1 by rfl, run_equalIn_array w 9999 _ _ Try.underlying46 hi0]
  have hc : Try.prog.cellsOf 3 = 1 := by kernel_rfl
  subst hv
  rw [hc, show List.range 3 = [0, 1, 2] by rfl]
  simp [Op.eqItems, go_sem]
  by_cases h : a = a' <;> by_cases h' : b = b' <;> by_cases h'' : c = c' <;> simp [h, h', h'']
set_option maxRecDepth 100000 in
set_option maxHeartbeats 4000000 in
theorem walk (w : World) (A : Option Addr) (c : Nat) (rules : List TR) (lc : rules.length ≤ c) (lm : c ≤ maxLen) (hR : RulesAt w w.heap.size A rules) (At : Option Addr) (ct : Nat) (text : List Int) (lct : text.length ≤ ct) (lmt : ct ≤ maxLen) (hT : Row w w.heap.size At (ints text)) :
    Calls Try.prog 9 #[.slice A rules.length c, .slice At text.length ct] w fun e w' => e = .returned (.bool true) ∧ Below w.heap.size w w' := by
  have HR := Lib.hid hR
  have HT := Lib.hid hT
  have HLC := Lib.hid lc
  have HLM := Lib.hid lm
  have lmt2 := Nat.le_trans lct lmt
  by_cases hf : smL rules ∧ text.length ≤ 40
  · have hsm := hf.1.smR
    have hrl := hf.1.1
    have htl := hf.2
    obtain ⟨R, hRes⟩ : ∃ R, trR (dataL rules) text 0 = R := ⟨_, rfl⟩
    have HRS := Lib.hid hRes
    clear hR hT lc lm lct lmt hRes
    go_enter Try.func9, Try.ntmps9
    go_wp2_with fail
    refine (few_any A At c ct rules text w HR.out HLC.out HLM.out true ⟨fun _ => hf, fun _ => rfl⟩).mono ?_
    rintro e w1 ⟨rfl, hb1⟩
    have HB1 := Lib.hid hb1
    have HR1 := Lib.hid (HR.out.below hb1).lt
    have HT1 := Lib.hid (HT.out.below hb1).lt
    clear hb1
    clear HR HT
    go_wp2_with fail
    refine (pTrace_any A At c ct rules text w1 HR1.out hsm HLC.out HLM.out (by omega) HT1.out (by omega) R HRS.out).mono ?_
    rintro e w2 ⟨A2, c2, rfl, g1, g2, hr2, hb2⟩
    have hg := Nat.le_trans g1 g2
    have HA2 := Lib.hid hr2
    have HB2 := Lib.hid (HB1.out.trans (hb2.mono HB1.out.size))
    have HR2 := Lib.hid (HR1.out.below hb2).lt
    have HT2 := Lib.hid (HT1.out.below hb2).lt
    clear hb2 hr2 HR1 HT1 g1 g2
    go_wp2_with fail
    refine (rTrace_any A At c ct rules text w2 HR2.out hsm HLC.out HLM.out HT2.out (by omega) R HRS.out).mono ?_
    rintro e w3 ⟨A3, c3, rfl, g1, g2, hr3, hb3⟩
    have HA3 := Lib.hid hr3
    have HA2' := Lib.hid (HA2.out.below hb3).lt
    have HB3 := Lib.hid (HB2.out.trans (hb3.mono HB2.out.size))
    obtain ⟨nr, hnr⟩ : ∃ n, R.length = n := ⟨_, rfl⟩
    have HNR := Lib.hid hnr
    rw [hnr] at hg ⊢
    unfold maxLen at hg
    clear hb3 hr3 HR2 HT2 HA2 g1 g2 hnr
    have hs3 := HB3.out.size
    go_wp2_with fail
    go_loopw [7] (fun i wr => ∃ k : Nat, k ≤ nr ∧ i = .int .i64 (k : Int) ∧ Hid (Below w3.heap.size w3 wr)) (fun i _ => nr - (intOf i).toNat)
    case atStart => exact ⟨0, by omega, rfl, Below.refl _ _⟩
    case round =>
      obtain ⟨k, hk, rfl, HB⟩ := hrel
      by_cases hkn : k < nr
      · obtain ⟨b, o, x, y, z, rfl, hb, hx, c1, c2, c3⟩ := at_tr (HA2'.out.below HB.out) (k := k) (by rw [HNR.out]; exact hkn)
        obtain ⟨b', o', x', y', z', rfl, hb', hx', c1', c2', c3'⟩ := at_tr (HA3.out.below HB.out) (k := k) (by rw [HNR.out]; exact hkn)
        obtain ⟨rfl, rfl, rfl⟩ : x = x' ∧ y = y' ∧ z = z' := by
          have h1 := hx.out
          rw [hx'.out] at h1
          simp only [Option.some.injEq, Prod.mk.injEq] at h1
          exact ⟨h1.1.symm, h1.2.1.symm, h1.2.2.symm⟩
        have hne := fun u => run_neq_t3 u x y z x y z false (by simp)
        go_wp2
        go_quiet (fail)
        go_wp2
        go_roundw
        case rel => exact ⟨k + 1, by omega, by go_num, below_drewN HB.out _⟩
        case measure => simp [intOf]; omega
      · obtain rfl : nr = k := by omega
        have HB3' := Lib.hid (HB3.out.trans (HB.out.mono hs3))
        go_wp2_with fail
        refine (alive_any _).mono ?_
        rintro e w4 ⟨rfl, hb4⟩
        have HB4 := Lib.hid (HB3'.out.trans (hb4.mono HB3'.out.size))
        clear hb4
        go_wp2
        go_ret
        exact ⟨rfl, HB4.out⟩
  · clear hR hT lc lm lct lmt
    go_enter Try.func9, Try.ntmps9
    go_wp2_with fail
    refine (few_any A At c ct rules text w HR.out HLC.out HLM.out false ⟨fun h => (by cases h), fun h => absurd h hf⟩).mono ?_
    rintro e w1 ⟨rfl, hb1⟩
    have HB1 := Lib.hid hb1
    have HR1 := Lib.hid (HR.out.below hb1).lt
    have HT1 := Lib.hid (HT.out.below hb1).lt
    clear hb1
    go_wp2_with fail
    refine (alive_any _).mono ?_
    rintro e w2 ⟨rfl, hb2⟩
    have HB2 := Lib.hid (HB1.out.trans (hb2.mono HB1.out.size))
    clear hb2
    go_wp2
    go_ret
    exact ⟨rfl, HB2.out⟩
theorem own : ownKnob Try.prog.godebug = none := by kernel_rfl
theorem laidOut : laidOutB Try.prog = true := by kernel_rfl
set_option maxRecDepth 100000 in
theorem lifted (os : Os) (started : os.Started) (H : Type) (enc : TypeId × Value → H) :
    ReturnsInHanded {} Try.checked os 9 .any (Rows.transduceTracesSpec.pre6 enc Try.prog Try.f9 Rows.transduceTracesRow.domain false) (Rows.transduceTracesSpec.post enc Try.prog Try.f9 false true false false) := by
  refine returnsInHanded_of_change (C := Try.checked) own started (by kernel_rfl) Try.func9
    (ChangeSpec.witness6 (enc := enc) (C := Try.checked) false ⟨#[], #[.slice none 0 0, .slice none 0 0], []⟩ 8 (by kernel_rfl) (by kernel_rfl) (by kernel_rfl) (by kernel_rfl)) ?_
  intro W base args ds gs before hval0 hW hcnd _
  have hval : ∀ (j : Nat) t v, Try.f9.params[j]? = some t → args[j]? = some v → Value.okWide Try.prog W .any base t v := hval0
  have hW' := hW
  obtain ⟨p, q, hA0, hV, rfl, hfz, hnd⟩ := hW
  have hA : DataW.TrodAll enc Try.prog W 0 (fun _ => true) true Try.f9.params.toList args.toList ds p := hA0
  rw [Try.params9] at hA hval
  obtain ⟨v0, v1, d0, d1, p0, p1, rfl, rfl, rfl, h0, h1⟩ := trodAll_two hA
  obtain ⟨rfl, rfl⟩ := trodVars_none hV
  obtain ⟨ad0, le0, ca0, rfl⟩ := okWide_slice Try.underlying22 (hval 0 22 v0 rfl rfl)
  obtain ⟨fu0, hf0⟩ := h0
  obtain ⟨A0, c0, xs0, hv0, hc0, hm0, hR0⟩ := open_rules (v := .slice ad0 le0 ca0) hf0
  injection hv0 with ea0 eb0 ec0
  subst ea0 eb0 ec0
  obtain ⟨ad1, le1, ca1, rfl⟩ := okWide_slice Try.underlying23 (hval 1 23 v1 rfl rfl)
  obtain ⟨fu1, hf1⟩ := h1
  obtain ⟨A1, c1, xs1, hv1, hc1, hm1, hR1, -⟩ := open_row (v := .slice ad1 le1 ca1) Try.underlying23 Try.underlying3 (by kernel_rfl) hf1
  injection hv1 with ea1 eb1 ec1
  subst ea1 eb1 ec1
  refine (walk W ad0 ca0 xs0 hc0 hm0 hR0 ad1 ca1 xs1 hc1 hm1 hR1).mono fun e W' ⟨he, hb⟩ => ⟨_, he, ?_⟩
  exact law_post laidOut (by rw [Try.params9]; exact of_decide_eq_true (by kernel_rfl)) rfl rfl Try.underlying4 hW' rfl hb
theorem holds : Rows.TransduceTracesSaid :=
  OpenClaim.holds_of_wide 9 Try.f9 rfl rfl rfl rfl rfl rfl rfl ⟨rfl, rfl, rfl, rfl, rfl⟩ rfl rfl rfl rfl rfl (by kernel_rfl) Try.func9 (by kernel_rfl)
    (of_decide_eq_true (by kernel_rfl)) (by unfold Func.isWrapper; first | (rw [if_pos (by decide +kernel)]; kernel_rfl) | (rw [if_neg (by decide +kernel)]; exact ⟨rfl, rfl⟩))
    (fun os started H enc _ => lifted os started H enc)
end Go.Proofs.Ytledbiabdiijhaa.LTraces
namespace Go.Proofs.Ytledbiabdiijhaa
theorem transduceTraces_holds : Rows.TransduceTracesSaid := LTraces.holds
end Go.Proofs.Ytledbiabdiijhaa
