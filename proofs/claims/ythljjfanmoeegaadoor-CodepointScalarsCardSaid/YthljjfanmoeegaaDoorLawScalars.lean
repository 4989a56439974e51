/-
  CodepointScalars: for every input the law returns true, and its arguments read as before; the table of digits is tied to the program's text (a card). No other condition.
-/
import Derived.Test.YthljjfanmoeegaaDoorCards
import Derived.Test.YthljjfanmoeegaaDoorTie
import Derived.Test.YthljjfanmoeegaaDoorCp5
import Derived.Test.YthljjfanmoeegaaDoorLift
import Derived.ProofKit
import Derived.OpenShut
import Derived.Deep.DeepHandedRow
import Derived.Lib.LaidTab
namespace Go.Proofs.YthljjfanmoeegaaDoor.LScalars
open Go.ChangeShapes Go.WideShapes Go.ChangeAt Go.RowKit Go.UtYthljjfanmoeegaaDoor Go.Joins
set_option maxRecDepth 100000 in
set_option maxHeartbeats 2000000 in
theorem walk (w : World) (hd : Digs w) (c : Int) (hc : -9223372036854775808 ≤ c ∧ c ≤ 9223372036854775807) :
    Calls Tryd.prog 9 #[.int .i64 c] w fun e w' => e = .returned (.bool true) ∧ Below w.heap.size w w' := by
  have HD := Lib.hid hd
  clear hd
  by_cases h : 0 ≤ c ∧ c ≤ 1114111
  · have H1 := Lib.hid (show vldB c = true by simp [vldB, h])
    have HP := Lib.hid (show plnZ c = c / 65536 by unfold plnZ; rw [if_pos h])
    obtain ⟨b, hb⟩ : ∃ b, surB c = b := ⟨_, rfl⟩
    have HU := Lib.hid hb
    have HS := Lib.hid (show scaB c = !b by unfold scaB; rw [H1.out, hb]; rfl)
    clear hb
    obtain ⟨h0, h1⟩ := h
    obtain ⟨p, hp⟩ : ∃ p, c / 65536 = p := ⟨_, rfl⟩
    have hp1 : 0 ≤ p := by omega
    have hp2 : p ≤ 16 := by omega
    have hp3 : 65536 * p ≤ c := by omega
    have hp4 : c < 65536 * (p + 1) := by omega
    have HP2 := Lib.hid (HP.out.trans hp)
    clear HP hp
    cases b
    all_goals
      go_enter Tryd.func9, Tryd.ntmps9
      go_wp2_with (first | (go_at_call 12; refine (valid_any _ _ _ H1.out).mono ?_; rintro e w' ⟨rfl, rfl⟩) | (go_at_call 19; refine (valid2_any _ _ _ rfl).mono ?_; rintro e w' ⟨rfl, rfl⟩) | (go_at_call 20; refine (scal_any _ _ _ HS.out).mono ?_; rintro e w' ⟨rfl, rfl⟩) | (go_at_call 21; refine (scal2_any _ _ _ rfl).mono ?_; rintro e w' ⟨rfl, rfl⟩) | (go_at_call 22; refine (surr_any _ _ _ HU.out).mono ?_; rintro e w' ⟨rfl, rfl⟩) | (go_at_call 23; refine (surr2_any _ _ _ rfl).mono ?_; rintro e w' ⟨rfl, rfl⟩) | (go_at_call 24; refine (nonc_any _ _ _ rfl).mono ?_; rintro e w' ⟨rfl, rfl⟩) | (go_at_call 25; refine (nonc2_any _ _ _ rfl).mono ?_; rintro e w' ⟨rfl, rfl⟩) | (go_at_call 26; refine (plane_any _ _ _ HP2.out).mono ?_; rintro e w' ⟨rfl, rfl⟩) | (go_at_call 27; refine (plane2_any _ _ _ rfl).mono ?_; rintro e w' ⟨rfl, rfl⟩))
      refine (awake_any _ HD.out).mono ?_
      rintro e wz ⟨rfl, hbz⟩
      have HBZ := Lib.hid hbz
      clear hbz
      go_wp2
      go_ret
      exact ⟨rfl, HBZ.out⟩
  · have H1 := Lib.hid (show vldB c = false by simp only [vldB, decide_eq_false_iff_not]; exact h)
    have H2 := Lib.hid (show scaB c = false by unfold scaB; rw [H1.out]; rfl)
    have H3 := Lib.hid (show surB c = false by unfold surB; simp only [decide_eq_false_iff_not]; omega)
    have H4 := Lib.hid (show nonB c = false by unfold nonB; rw [H1.out]; rfl)
    have H5 := Lib.hid (show plnZ c = -1 by unfold plnZ; rw [if_neg h])
    clear h
    go_enter Tryd.func9, Tryd.ntmps9
    go_wp2_with (first | (go_at_call 12; refine (valid_any _ _ _ H1.out).mono ?_; rintro e w' ⟨rfl, rfl⟩) | (go_at_call 19; refine (valid2_any _ _ _ rfl).mono ?_; rintro e w' ⟨rfl, rfl⟩) | (go_at_call 20; refine (scal_any _ _ _ H2.out).mono ?_; rintro e w' ⟨rfl, rfl⟩) | (go_at_call 21; refine (scal2_any _ _ _ rfl).mono ?_; rintro e w' ⟨rfl, rfl⟩) | (go_at_call 22; refine (surr_any _ _ _ H3.out).mono ?_; rintro e w' ⟨rfl, rfl⟩) | (go_at_call 23; refine (surr2_any _ _ _ rfl).mono ?_; rintro e w' ⟨rfl, rfl⟩) | (go_at_call 24; refine (nonc_any _ _ _ H4.out).mono ?_; rintro e w' ⟨rfl, rfl⟩) | (go_at_call 25; refine (nonc2_any _ _ _ rfl).mono ?_; rintro e w' ⟨rfl, rfl⟩) | (go_at_call 26; refine (plane_any _ _ _ H5.out).mono ?_; rintro e w' ⟨rfl, rfl⟩) | (go_at_call 27; refine (plane2_any _ _ _ rfl).mono ?_; rintro e w' ⟨rfl, rfl⟩))
    refine (awake_any _ HD.out).mono ?_
    rintro e wz ⟨rfl, hbz⟩
    have HBZ := Lib.hid hbz
    clear hbz
    go_wp2
    go_ret
    exact ⟨rfl, HBZ.out⟩
theorem own : ownKnob Tryd.prog.godebug = none := by kernel_rfl
theorem laidOut : laidOutB Tryd.prog = true := by kernel_rfl
theorem gTab : Tryd.prog.globalNamed "unicodetext/codepoint.digits" = some 0 := by kernel_rfl
theorem gTabType : (Tryd.prog.globals[0]?).map (·.type) = some 35 := by kernel_rfl
theorem cellsA : Tryd.prog.cellsOf 35 = 16 := by kernel_rfl
theorem cellsB : Tryd.prog.cellsOf 5 = 1 := by kernel_rfl
theorem table {W : World} (h : laidMetH Tryd.prog Rows.codepointScalarsRow.laid W) : Lib.TabIs Tryd.prog W "unicodetext/codepoint.digits" .u8 [48, 49, 50, 51, 52, 53, 54, 55, 56, 57, 65, 66, 67, 68, 69, 70] :=
  Lib.tabIs_of_head (rest := []) gTab gTabType Tryd.underlying35 Tryd.underlying5 cellsB cellsA h
theorem digs {W : World} (h : laidMetH Tryd.prog Rows.codepointScalarsRow.laid W) : Digs W := by
  have hc : ∀ d, d < 16 → W.cell? ⟨0, d, none⟩ = some (.int .u8 ((dg d).toNat : Int)) := fun d hd => by
    have e : ∀ d, d < 16 → ([48, 49, 50, 51, 52, 53, 54, 55, 56, 57, 65, 66, 67, 68, 69, 70] : List Int)[d]? = some ((dg d).toNat : Int) := by decide
    have h1 := (table h).cell gTab d (by simpa using hd)
    rw [h1]
    have h2 := e d hd
    simp only [List.getD, h2, Option.getD_some]
  exact ⟨World.block_lt_of_cell? W ⟨0, 0, none⟩ (hc 0 (by omega)), hc⟩
theorem contract (H : Type) (enc : TypeId × Value → H) (W : World) (base : Nat) (args : Array Value) (ds gs : List (DataW H)) (before : List MemPlace)
    (hval : ∀ (j : Nat) t v, Tryd.f9.params[j]? = some t → args[j]? = some v → Value.okWide Tryd.prog W .any base t v)
    (hW : DataW.Whole enc Tryd.prog Tryd.f9.params.toList Rows.codepointScalarsSpec.vars false W args.toList ds gs before) (hL : laidMetH Tryd.prog Rows.codepointScalarsRow.laid W) :
    Calls Tryd.prog 9 args W fun e W' => ∃ v, e = .returned v ∧ Rows.codepointScalarsSpec.post enc Tryd.prog Tryd.f9 false true false false W args v W' := by
  have hW' := hW
  obtain ⟨p, q, hA0, hV, rfl, hfz, hnd⟩ := hW
  have hA : DataW.TrodAll enc Tryd.prog W 0 (fun _ => true) true Tryd.f9.params.toList args.toList ds p := hA0
  rw [Tryd.params9] at hA hval
  obtain ⟨v0, vs0, d0, ds0, p0, q0, hargs, rfl, rfl, h0, r0⟩ := trodAll_cons hA
  obtain ⟨rfl, rfl, rfl⟩ := trodAll_nil r0
  obtain rfl : args = #[v0] := by cases args; simp_all
  obtain ⟨rfl, rfl⟩ := trodVars_none hV
  obtain ⟨s0, rfl, rfl, rfl, ws0⟩ := open_int Tryd.underlying3 (hval 0 3 v0 rfl rfl) h0
  refine (walk W (digs hL) s0 (wf_i64 ws0)).mono fun e W' ⟨he, hb⟩ => ⟨_, he, ?_⟩
  exact law_post laidOut (by rw [Tryd.params9]; exact of_decide_eq_true (by kernel_rfl)) rfl rfl Tryd.underlying4 hW' rfl hb
noncomputable def laidWorld (os : Os) : World :=
  { World.holding Tryd.prog os ⟨#[], #[], []⟩ with heap := (World.holding Tryd.prog os ⟨#[], #[], []⟩).heap.modify 0 fun
      | .cells _ t frozen => .cells #[.int .u8 48, .int .u8 49, .int .u8 50, .int .u8 51, .int .u8 52, .int .u8 53, .int .u8 54, .int .u8 55, .int .u8 56, .int .u8 57, .int .u8 65, .int .u8 66, .int .u8 67, .int .u8 68, .int .u8 69, .int .u8 70] t frozen
      | o => o }
theorem laid_met (os : Os) : laidMet Tryd.prog Rows.codepointScalarsRow.laid ((laidWorld os).forCall (fun _ _ => 0) ⟨#[], #[.int .i64 0], []⟩).memory :=
  laidMet_of_run' 8 (by kernel_rfl) (by kernel_rfl)
theorem reads (os : Os) {H : Type} (enc : TypeId × Value → H) : ∃ places, DataW.whole enc Tryd.prog ((laidWorld os).forCall (fun _ _ => 0) ⟨#[], #[.int .i64 0], []⟩).memory Tryd.f9.params.toList Rows.codepointScalarsSpec.vars false (#[.int .i64 0] : Array Value).toList 8 = some ([.lit (.int .i64 0)], [], places) :=
  ⟨[], by kernel_rfl⟩
set_option maxRecDepth 100000 in
theorem lifted (os : Os) (started : os.Started) (H : Type) (enc : TypeId × Value → H) (F : Stop.Interp) :
    ReturnsInHanded {} Tryd.checked os 9 .any ((OpenSpec.ofChange Rows.codepointScalarsSpec).preRow enc Tryd.prog Tryd.f9 Rows.codepointScalarsRow.domain false Rows.codepointScalarsRow.laid) (((OpenSpec.ofChange Rows.codepointScalarsSpec).at F).post enc Tryd.prog Tryd.f9 false true false false) := by
  obtain ⟨places, hx⟩ := reads os enc
  refine returnsInHanded_of_row (C := Tryd.checked) (s := OpenSpec.ofChange Rows.codepointScalarsSpec) own started (by kernel_rfl) Tryd.func9
    (witness_row_at (enc := enc) (C := Tryd.checked) false (laidWorld os) #[.int .i64 0] rfl (by kernel_rfl) (by kernel_rfl) (by kernel_rfl)
      (OpenSpec.preRow_of_cond 8 hx (by kernel_rfl) (fun k hk => by cases hk) (by kernel_rfl) (laid_met os))) ?_
  intro W base args ds gs before hval hW _ _ _ hL _ _
  exact contract H enc W base args ds gs before hval hW hL
theorem said : Rows.CodepointScalarsSaid :=
  OpenClaim.holds_of_cond 9 Tryd.f9 rfl rfl rfl rfl rfl rfl rfl ⟨rfl, rfl, rfl, rfl, rfl⟩ rfl rfl rfl rfl rfl (by kernel_rfl) Tryd.func9 (by kernel_rfl)
    (of_decide_eq_true (by kernel_rfl)) (by unfold Func.isWrapper; first | (rw [if_pos (by decide +kernel)]; kernel_rfl) | (rw [if_neg (by decide +kernel)]; exact ⟨rfl, rfl⟩))
    (fun os started H enc _ F => by rw [OpenClaim.pre_eq_preRow]; exact lifted os started H enc F)
theorem plain (f : FuncId) (fn : Func) (hf : Tryd.pinned.checked.prog.funcNamed "unicodetext/unicodetextlaw01.CodepointScalars" = some f) (hfn : Tryd.pinned.checked.prog.funcs[f]? = some fn) :
    false = Tryd.pinned.checked.prog.looks [] ∧ ∀ (j : Nat) t, fn.params[j]? = some t → Tryd.pinned.checked.prog.wantsStandIn t = false := by
  obtain rfl : f = 9 := Option.some.inj ((show Tryd.prog.funcNamed "unicodetext/unicodetextlaw01.CodepointScalars" = some 9 by kernel_rfl).symm.trans hf) |>.symm
  obtain rfl : fn = Tryd.f9 := (Option.some.inj (Tryd.func9.symm.trans hfn)).symm
  refine ⟨by kernel_rfl, fun j t ht => ?_⟩
  rw [Tryd.params9] at ht
  obtain rfl : t = 3 := by simpa using Array.mem_of_getElem? ht
  exact (show Tryd.prog.wantsStandIn 3 = false by kernel_rfl)
theorem card : Rows.CodepointScalarsCardSaid :=
  Claim7.holds_tied_plain_at .later [] _ _ _ _ said (fun _ h => by cases h) (by kernel_rfl) (fun _ h => by cases h) codepointScalars_row_tie rfl ⟨rfl, rfl⟩ (by kernel_rfl) rfl plain (by kernel_rfl)
end Go.Proofs.YthljjfanmoeegaaDoor.LScalars
namespace Go.Proofs.YthljjfanmoeegaaDoor
theorem codepointScalars_holds : Rows.CodepointScalarsCardSaid := LScalars.card
end Go.Proofs.YthljjfanmoeegaaDoor
