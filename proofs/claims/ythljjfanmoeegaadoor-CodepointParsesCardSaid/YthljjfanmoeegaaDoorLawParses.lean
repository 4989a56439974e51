/-
  CodepointParses: for every input the law returns true, and its arguments read as before; the table of digits is tied to the program's text (a card). No other condition.
-/
import Derived.Test.YthljjfanmoeegaaDoorCards
import Derived.Test.YthljjfanmoeegaaDoorTie
import Derived.Test.YthljjfanmoeegaaDoorCp5
import Derived.Test.YthljjfanmoeegaaDoorLift
import Derived.ProofKit
import Derived.OpenShut
import Derived.Deep.DeepHandedRow
import Derived.Lib.LaidTab
namespace Go.Proofs.YthljjfanmoeegaaDoor.LParses
open Go.ChangeShapes Go.WideShapes Go.ChangeAt Go.RowKit Go.UtYthljjfanmoeegaaDoor Go.Joins
theorem str_eta (s : ByteArray) : s = ⟨s.data.toList.toArray⟩ := by
  cases s
  simp
set_option maxRecDepth 100000 in
set_option maxHeartbeats 2000000 in
theorem walk (w : World) (hd : Digs w) (s : ByteArray) (hs : s.size ≤ maxLen) :
    Calls Tryd.prog 4 #[.string s] w fun e w' => e = .returned (.bool true) ∧ Below w.heap.size w w' := by
  obtain ⟨l, rfl⟩ : ∃ l : List UInt8, s = ⟨l.toArray⟩ := ⟨_, str_eta s⟩
  have hs : l.length ≤ maxLen := by simpa [ByteArray.size] using hs
  have HL := Lib.hid hs
  unfold maxLen at hs
  have HD := Lib.hid hd
  clear hd
  by_cases h : 200 < l.length
  · go_enter Tryd.func4, Tryd.ntmps4
    go_wp2_with fail
    refine (awake_any _ HD.out).mono ?_
    rintro e wz ⟨rfl, hbz⟩
    have HBZ := Lib.hid hbz
    clear hbz
    go_wp2
    go_ret
    exact ⟨rfl, HBZ.out⟩
  · obtain ⟨c, f, hp⟩ : ∃ c f, parse l = (c, f) := ⟨_, _, rfl⟩
    have HP := Lib.hid hp
    by_cases hf : f = 0
    · subst hf
      have HX : Hid (hexS c = l) := by
        have := parse_out (l := l) (by rw [hp])
        rwa [hp] at this
      clear hp
      go_enter Tryd.func4, Tryd.ntmps4
      go_wp2_with fail
      refine (parse_any l _ HD.out HL.out c 0 HP.out).mono ?_
      rintro e w1 ⟨rfl, hb1⟩
      have HD1 := Lib.hid (HD.out.below hb1)
      have HB1 := Lib.hid hb1
      clear hb1 HD
      go_wp2_with fail
      refine (parse2_any l _ HL.out c 0 HP.out).mono ?_
      rintro e w2 ⟨rfl, hb2⟩
      have HD2 := Lib.hid (HD1.out.below hb2)
      have HB2 := Lib.hid (below_then HB1.out hb2 (Nat.le_refl _))
      clear hb2 HD1 HB1
      go_wp2_with fail
      refine (hex_any _ _ HD2.out _ HX.out).mono ?_
      rintro e w3 ⟨rfl, hb3⟩
      have HD3 := Lib.hid (HD2.out.below hb3)
      have HB3 := Lib.hid (below_then HB2.out hb3 (Nat.le_refl _))
      clear hb3 HD2 HB2
      go_wp2_with fail
      refine (awake_any _ HD3.out).mono ?_
      rintro e wz ⟨rfl, hbz⟩
      have HBZ := Lib.hid (below_then HB3.out hbz (Nat.le_refl _))
      clear hbz
      go_wp2
      go_ret
      exact ⟨rfl, HBZ.out⟩
    · have hf1 : (f == 0) = false := by simpa using hf
      have hf2 : (f != 0) = true := by simpa using hf
      clear hp hf
      go_enter Tryd.func4, Tryd.ntmps4
      go_wp2_with fail
      refine (parse_any l _ HD.out HL.out c f HP.out).mono ?_
      rintro e w1 ⟨rfl, hb1⟩
      have HD1 := Lib.hid (HD.out.below hb1)
      have HB1 := Lib.hid hb1
      clear hb1 HD
      go_wp2_with fail
      refine (parse2_any l _ HL.out c f HP.out).mono ?_
      rintro e w2 ⟨rfl, hb2⟩
      have HD2 := Lib.hid (HD1.out.below hb2)
      have HB2 := Lib.hid (below_then HB1.out hb2 (Nat.le_refl _))
      clear hb2 HD1 HB1
      go_wp2_with fail
      refine (awake_any _ HD2.out).mono ?_
      rintro e wz ⟨rfl, hbz⟩
      have HBZ := Lib.hid (below_then HB2.out hbz (Nat.le_refl _))
      clear hbz
      go_wp2
      go_ret
      exact ⟨rfl, HBZ.out⟩
theorem own : ownKnob Tryd.prog.godebug = none := by kernel_rfl
theorem laidOut : laidOutB Tryd.prog = true := by kernel_rfl
theorem gTab : Tryd.prog.globalNamed "unicodetext/codepoint.digits" = some 0 := by kernel_rfl
theorem gTabType : (Tryd.prog.globals[0]?).map (·.type) = some 35 := by kernel_rfl
theorem cellsA : Tryd.prog.cellsOf 35 = 16 := by kernel_rfl
theorem cellsB : Tryd.prog.cellsOf 5 = 1 := by kernel_rfl
theorem table {W : World} (h : laidMetH Tryd.prog Rows.codepointParsesRow.laid W) : Lib.TabIs Tryd.prog W "unicodetext/codepoint.digits" .u8 [48, 49, 50, 51, 52, 53, 54, 55, 56, 57, 65, 66, 67, 68, 69, 70] :=
  Lib.tabIs_of_head (rest := []) gTab gTabType Tryd.underlying35 Tryd.underlying5 cellsB cellsA h
theorem digs {W : World} (h : laidMetH Tryd.prog Rows.codepointParsesRow.laid W) : Digs W := by
  have hc : ∀ d, d < 16 → W.cell? ⟨0, d, none⟩ = some (.int .u8 ((dg d).toNat : Int)) := fun d hd => by
    have e : ∀ d, d < 16 → ([48, 49, 50, 51, 52, 53, 54, 55, 56, 57, 65, 66, 67, 68, 69, 70] : List Int)[d]? = some ((dg d).toNat : Int) := by decide
    have h1 := (table h).cell gTab d (by simpa using hd)
    rw [h1]
    have h2 := e d hd
    simp only [List.getD, h2, Option.getD_some]
  exact ⟨World.block_lt_of_cell? W ⟨0, 0, none⟩ (hc 0 (by omega)), hc⟩
theorem contract (H : Type) (enc : TypeId × Value → H) (W : World) (base : Nat) (args : Array Value) (ds gs : List (DataW H)) (before : List MemPlace)
    (hval : ∀ (j : Nat) t v, Tryd.f4.params[j]? = some t → args[j]? = some v → Value.okWide Tryd.prog W .any base t v)
    (hW : DataW.Whole enc Tryd.prog Tryd.f4.params.toList Rows.codepointParsesSpec.vars false W args.toList ds gs before) (hL : laidMetH Tryd.prog Rows.codepointParsesRow.laid W) :
    Calls Tryd.prog 4 args W fun e W' => ∃ v, e = .returned v ∧ Rows.codepointParsesSpec.post enc Tryd.prog Tryd.f4 false true false false W args v W' := by
  have hW' := hW
  obtain ⟨p, q, hA0, hV, rfl, hfz, hnd⟩ := hW
  have hA : DataW.TrodAll enc Tryd.prog W 0 (fun _ => true) true Tryd.f4.params.toList args.toList ds p := hA0
  rw [Tryd.params4] at hA hval
  obtain ⟨v0, vs0, d0, ds0, p0, q0, hargs, rfl, rfl, h0, r0⟩ := trodAll_cons hA
  obtain ⟨rfl, rfl, rfl⟩ := trodAll_nil r0
  obtain rfl : args = #[v0] := by cases args; simp_all
  obtain ⟨rfl, rfl⟩ := trodVars_none hV
  obtain ⟨s0, rfl, rfl, rfl, hmax0⟩ := Go.ChangeMaps.open_string Tryd.underlying9 (hval 0 9 v0 rfl rfl) h0
  refine (walk W (digs hL) s0 hmax0).mono fun e W' ⟨he, hb⟩ => ⟨_, he, ?_⟩
  exact law_post laidOut (by rw [Tryd.params4]; exact of_decide_eq_true (by kernel_rfl)) rfl rfl Tryd.underlying4 hW' rfl hb
noncomputable def laidWorld (os : Os) : World :=
  { World.holding Tryd.prog os ⟨#[], #[], []⟩ with heap := (World.holding Tryd.prog os ⟨#[], #[], []⟩).heap.modify 0 fun
      | .cells _ t frozen => .cells #[.int .u8 48, .int .u8 49, .int .u8 50, .int .u8 51, .int .u8 52, .int .u8 53, .int .u8 54, .int .u8 55, .int .u8 56, .int .u8 57, .int .u8 65, .int .u8 66, .int .u8 67, .int .u8 68, .int .u8 69, .int .u8 70] t frozen
      | o => o }
theorem laid_met (os : Os) : laidMet Tryd.prog Rows.codepointParsesRow.laid ((laidWorld os).forCall (fun _ _ => 0) ⟨#[], #[.string .empty], []⟩).memory :=
  laidMet_of_run' 8 (by kernel_rfl) (by kernel_rfl)
theorem reads (os : Os) {H : Type} (enc : TypeId × Value → H) : ∃ places, DataW.whole enc Tryd.prog ((laidWorld os).forCall (fun _ _ => 0) ⟨#[], #[.string .empty], []⟩).memory Tryd.f4.params.toList Rows.codepointParsesSpec.vars false (#[.string .empty] : Array Value).toList 8 = some ([.lit (.string [])], [], places) :=
  ⟨[], by kernel_rfl⟩
set_option maxRecDepth 100000 in
theorem lifted (os : Os) (started : os.Started) (H : Type) (enc : TypeId × Value → H) (F : Stop.Interp) :
    ReturnsInHanded {} Tryd.checked os 4 .any ((OpenSpec.ofChange Rows.codepointParsesSpec).preRow enc Tryd.prog Tryd.f4 Rows.codepointParsesRow.domain false Rows.codepointParsesRow.laid) (((OpenSpec.ofChange Rows.codepointParsesSpec).at F).post enc Tryd.prog Tryd.f4 false true false false) := by
  obtain ⟨places, hx⟩ := reads os enc
  refine returnsInHanded_of_row (C := Tryd.checked) (s := OpenSpec.ofChange Rows.codepointParsesSpec) own started (by kernel_rfl) Tryd.func4
    (witness_row_at (enc := enc) (C := Tryd.checked) false (laidWorld os) #[.string .empty] rfl (by kernel_rfl) (by kernel_rfl) (by kernel_rfl)
      (OpenSpec.preRow_of_cond 8 hx (by kernel_rfl) (fun k hk => by cases hk) (by kernel_rfl) (laid_met os))) ?_
  intro W base args ds gs before hval hW _ _ _ hL _ _
  exact contract H enc W base args ds gs before hval hW hL
theorem said : Rows.CodepointParsesSaid :=
  OpenClaim.holds_of_cond 4 Tryd.f4 rfl rfl rfl rfl rfl rfl rfl ⟨rfl, rfl, rfl, rfl, rfl⟩ rfl rfl rfl rfl rfl (by kernel_rfl) Tryd.func4 (by kernel_rfl)
    (of_decide_eq_true (by kernel_rfl)) (by unfold Func.isWrapper; first | (rw [if_pos (by decide +kernel)]; kernel_rfl) | (rw [if_neg (by decide +kernel)]; exact ⟨rfl, rfl⟩))
    (fun os started H enc _ F => by rw [OpenClaim.pre_eq_preRow]; exact lifted os started H enc F)
theorem plain (f : FuncId) (fn : Func) (hf : Tryd.pinned.checked.prog.funcNamed "unicodetext/unicodetextlaw01.CodepointParses" = some f) (hfn : Tryd.pinned.checked.prog.funcs[f]? = some fn) :
    false = Tryd.pinned.checked.prog.looks [] ∧ ∀ (j : Nat) t, fn.params[j]? = some t → Tryd.pinned.checked.prog.wantsStandIn t = false := by
  obtain rfl : f = 4 := Option.some.inj ((show Tryd.prog.funcNamed "unicodetext/unicodetextlaw01.CodepointParses" = some 4 by kernel_rfl).symm.trans hf) |>.symm
  obtain rfl : fn = Tryd.f4 := (Option.some.inj (Tryd.func4.symm.trans hfn)).symm
  refine ⟨by kernel_rfl, fun j t ht => ?_⟩
  rw [Tryd.params4] at ht
  obtain rfl : t = 9 := by simpa using Array.mem_of_getElem? ht
  exact (show Tryd.prog.wantsStandIn 9 = false by kernel_rfl)
theorem card : Rows.CodepointParsesCardSaid :=
  Claim7.holds_tied_plain_at .later [] _ _ _ _ said (fun _ h => by cases h) (by kernel_rfl) (fun _ h => by cases h) codepointParses_row_tie rfl ⟨rfl, rfl⟩ (by kernel_rfl) rfl plain (by kernel_rfl)
end Go.Proofs.YthljjfanmoeegaaDoor.LParses
namespace Go.Proofs.YthljjfanmoeegaaDoor
theorem codepointParses_holds : Rows.CodepointParsesCardSaid := LParses.card
end Go.Proofs.YthljjfanmoeegaaDoor
