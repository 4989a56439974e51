/-
  TransduceReaches: for every input the law returns true, and its arguments read as before. No condition.
-/
import Derived.Test.YtledbiabdiijhaaRows
import Derived.Test.YtledbiabdiijhaaLift
import Derived.Test.YtledbiabdiijhaaTlo
import Derived.Test.YtledbiabdiijhaaTu4
import Derived.Test.YtledbiabdiijhaaTu5
import Derived.Test.YtledbiabdiijhaaTu6
import Derived.Deep.CutBlock
namespace Go.Proofs.Ytledbiabdiijhaa.LReaches
open Go.ChangeShapes Go.WideShapes Go.ChangeAt Go.RowKit Go.UtYtledbiabdiijhaa Go.Joins
set_option maxRecDepth 100000 in
set_option maxHeartbeats 4000000 in
theorem walk (w : World) (A : Option Addr) (c : Nat) (rules : List TR) (lc : rules.length ≤ c) (lm : c ≤ maxLen) (hR : RulesAt w w.heap.size A rules) :
    Calls Try.prog 7 #[.slice A rules.length c] w fun e w' => e = .returned (.bool true) ∧ Below w.heap.size w w' := by
  have HR := Lib.hid hR
  have HLC := Lib.hid lc
  have HLM := Lib.hid lm
  by_cases hf : smL rules
  · have hsm := hf.smR
    have hrl := hf.1
    obtain ⟨bf, hbf⟩ : ∃ n, bfR (dataL rules) = n := ⟨_, rfl⟩
    obtain ⟨ah, hah⟩ : ∃ n, ahR (dataL rules) = n := ⟨_, rfl⟩
    have HBF := Lib.hid hbf
    have HAH := Lib.hid hah
    clear hR lc lm hbf hah
    go_enter Try.func7, Try.ntmps7
    go_wp2_with fail
    refine (smallR_any A c rules w HR.out HLC.out HLM.out true ⟨fun _ => hf, fun _ => rfl⟩).mono ?_
    rintro e w1 ⟨rfl, hb1⟩
    have HB1 := Lib.hid hb1
    have HR1 := Lib.hid (HR.out.below hb1).lt
    clear hb1
    clear HR
    go_wp2_with fail
    refine (pReach_any A c rules w1 HR1.out hsm HLC.out HLM.out (by omega) bf ah HBF.out HAH.out).mono ?_
    rintro e w2 ⟨rfl, hb2⟩
    have HB2 := Lib.hid (HB1.out.trans (hb2.mono HB1.out.size))
    have HR2 := Lib.hid (HR1.out.below hb2).lt
    clear hb2 HR1
    go_wp2_with fail
    refine (rReach_any A c rules w2 HR2.out hsm HLC.out HLM.out bf ah HBF.out HAH.out).mono ?_
    rintro e w3 ⟨rfl, hb3⟩
    have HB3 := Lib.hid (HB2.out.trans (hb3.mono HB2.out.size))
    clear hb3 HR2
    go_wp2_with fail
    refine (alive_any _).mono ?_
    rintro e w4 ⟨rfl, hb4⟩
    have HB4 := Lib.hid (HB3.out.trans (hb4.mono HB3.out.size))
    clear hb4
    go_wp2
    go_ret
    exact ⟨rfl, HB4.out⟩
  · clear hR lc lm
    go_enter Try.func7, Try.ntmps7
    go_wp2_with fail
    refine (smallR_any A c rules w HR.out HLC.out HLM.out false ⟨fun h => (by cases h), fun h => absurd h hf⟩).mono ?_
    rintro e w1 ⟨rfl, hb1⟩
    have HB1 := Lib.hid hb1
    have HR1 := Lib.hid (HR.out.below hb1).lt
    clear hb1
    go_wp2_with fail
    refine (alive_any _).mono ?_
    rintro e w2 ⟨rfl, hb2⟩
    have HB2 := Lib.hid (HB1.out.trans (hb2.mono HB1.out.size))
    clear hb2
    go_wp2
    go_ret
    exact ⟨rfl, HB2.out⟩
theorem own : ownKnob Try.prog.godebug = none := by kernel_rfl
theorem laidOut : laidOutB Try.prog = true := by kernel_rfl
set_option maxRecDepth 100000 in
theorem lifted (os : Os) (started : os.Started) (H : Type) (enc : TypeId × Value → H) :
    ReturnsInHanded {} Try.checked os 7 .any (Rows.transduceReachesSpec.pre6 enc Try.prog Try.f7 Rows.transduceReachesRow.domain false) (Rows.transduceReachesSpec.post enc Try.prog Try.f7 false true false false) := by
  refine returnsInHanded_of_change (C := Try.checked) own started (by kernel_rfl) Try.func7
    (ChangeSpec.witness6 (enc := enc) (C := Try.checked) false ⟨#[], #[.slice none 0 0], []⟩ 8 (by kernel_rfl) (by kernel_rfl) (by kernel_rfl) (by kernel_rfl)) ?_
  intro W base args ds gs before hval0 hW hcnd _
  have hval : ∀ (j : Nat) t v, Try.f7.params[j]? = some t → args[j]? = some v → Value.okWide Try.prog W .any base t v := hval0
  have hW' := hW
  obtain ⟨p, q, hA0, hV, rfl, hfz, hnd⟩ := hW
  have hA : DataW.TrodAll enc Try.prog W 0 (fun _ => true) true Try.f7.params.toList args.toList ds p := hA0
  rw [Try.params7] at hA hval
  obtain ⟨v0, vs0, d0, ds0, p0, q0, hargs, rfl, rfl, h0, r0⟩ := trodAll_cons hA
  obtain ⟨rfl, rfl, rfl⟩ := trodAll_nil r0
  obtain rfl : args = #[v0] := by cases args; simp_all
  obtain ⟨rfl, rfl⟩ := trodVars_none hV
  obtain ⟨ad0, le0, ca0, rfl⟩ := okWide_slice Try.underlying22 (hval 0 22 v0 rfl rfl)
  obtain ⟨fu0, hf0⟩ := h0
  obtain ⟨A0, c0, xs0, hv0, hc0, hm0, hR0⟩ := open_rules (v := .slice ad0 le0 ca0) hf0
  injection hv0 with ea0 eb0 ec0
  subst ea0 eb0 ec0
  refine (walk W ad0 ca0 xs0 hc0 hm0 hR0).mono fun e W' ⟨he, hb⟩ => ⟨_, he, ?_⟩
  exact law_post laidOut (by rw [Try.params7]; exact of_decide_eq_true (by kernel_rfl)) rfl rfl Try.underlying4 hW' rfl hb
theorem holds : Rows.TransduceReachesSaid :=
  OpenClaim.holds_of_wide 7 Try.f7 rfl rfl rfl rfl rfl rfl rfl ⟨rfl, rfl, rfl, rfl, rfl⟩ rfl rfl rfl rfl rfl (by kernel_rfl) Try.func7 (by kernel_rfl)
    (of_decide_eq_true (by kernel_rfl)) (by unfold Func.isWrapper; first | (rw [if_pos (by decide +kernel)]; kernel_rfl) | (rw [if_neg (by decide +kernel)]; exact ⟨rfl, rfl⟩))
    (fun os started H enc _ => lifted os started H enc)
end Go.Proofs.Ytledbiabdiijhaa.LReaches
namespace Go.Proofs.Ytledbiabdiijhaa
theorem transduceReaches_holds : Rows.TransduceReachesSaid := LReaches.holds
end Go.Proofs.Ytledbiabdiijhaa
