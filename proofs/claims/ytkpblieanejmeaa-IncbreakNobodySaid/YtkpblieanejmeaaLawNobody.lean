/-
  IncbreakNobody: for every input the law returns true, and its arguments read as before. No condition.
-/
import Derived.Test.YtkpblieanejmeaaRows
import Derived.Test.YtkpblieanejmeaaLift
import Derived.Test.YtkpblieanejmeaaIe1
import Derived.Test.YtkpblieanejmeaaIe0
import Derived.BigQuiet
namespace Go.Proofs.Ytkpblieanejmeaa.LNobody
open Go.ChangeShapes Go.WideShapes Go.ChangeAt Go.RowKit Go.UtYtkpblieanejmeaa Go.Joins
set_option maxRecDepth 100000 in
set_option maxHeartbeats 4000000 in
theorem walk (w : World) (a b : Int) (A : Option Addr) (c : Nat) (ins : List Int) (_hc : ins.length ≤ c) (_hm : c ≤ maxLen) (_hI : Row w w.heap.size A (ints ins)) (n : Int) (_hn : -9223372036854775808 ≤ n ∧ n ≤ 9223372036854775807) :
    Calls Try.prog 8 #[.agg #[.int .i64 a, .int .i64 b, .slice A ins.length c], .int .i64 n] w fun e w' => e = .returned (.bool true) ∧ Below w.heap.size w w' := by
  have her := eq_rg
  obtain ⟨m, hm'⟩ : ∃ m, ins.length = m := ⟨_, rfl⟩
  rw [hm']
  clear hm'
  obtain ⟨w1, hw1, HB1, HK1⟩ := boxV w 46 #[.int .i64 a, .int .i64 b, .slice A m c]
  obtain ⟨w2, hw2, HB2', HK2'⟩ := boxV w1 71 #[.slice none 0 0, .slice none 0 0, .slice none 0 0, .slice none 0 0, .slice none 0 0, .slice none 0 0, .slice none 0 0, .slice none 0 0, .slice none 0 0, .slice none 0 0, .slice none 0 0, .bool false]
  obtain ⟨w3, hw3, HB3', HK3'⟩ := boxV w2 37 #[.pointer none, .pointer (some ⟨w.heap.size + 1, 0, none⟩)]
  have hs1 : w1.heap.size = w.heap.size + 1 := by rw [hw1]; simp
  have hs2 : w2.heap.size = w.heap.size + 1 + 1 := by rw [hw2, World.size_alloc, hs1]
  rw [hs1] at HK2'
  rw [hs2] at HK3'
  have HB3 : Hid (Below w.heap.size w w3) := Lib.hid (HB1.out.trans ((HB2'.out.trans (HB3'.out.mono HB2'.out.size)).mono HB1.out.size))
  have HKE : Hid (Blk w3 w.heap.size 46 #[.int .i64 a, .int .i64 b, .slice A m c]) := Lib.hid ((HK1.out.after HB2'.out).after HB3'.out)
  have HKD : Hid (Blk w3 (w.heap.size + 1) 71 #[.slice none 0 0, .slice none 0 0, .slice none 0 0, .slice none 0 0, .slice none 0 0, .slice none 0 0, .slice none 0 0, .slice none 0 0, .slice none 0 0, .slice none 0 0, .slice none 0 0, .bool false]) := Lib.hid (HK2'.out.after HB3'.out)
  have HKP := HK3'
  obtain ⟨D, hD⟩ : ∃ D, D = w.heap.size + 1 := ⟨_, rfl⟩
  obtain ⟨gs, hgs⟩ : ∃ D, D = w.heap.size + 1 + 1 := ⟨_, rfl⟩
  rw [← hD] at HKD
  rw [← hgs, ← hD] at HKP
  rw [← hD] at hw3
  clear HK1 HK2' HB1 HB2' HB3' HK3' hs1 hs2
  go_enter Try.func8, Try.ntmps8
  go_upto_region 3 with fail
  rw [← hw1, ← hw2, ← hgs, ← hD, ← hw3]
  clear hw1 hw2 hw3 hD hgs
  go_wp2
  go_loopw [15] (fun i wr => ∃ k : Nat, k ≤ 2 ∧ i = .int .i64 (k : Int) ∧ Hid (Below w3.heap.size w3 wr)) (fun i _ => 2 - (intOf i).toNat)
  case atStart => exact ⟨0, by omega, rfl, Below.refl _ _⟩
  case round =>
    obtain ⟨k, hk, rfl, HB⟩ := hrel
    have HBR := Lib.hid (HB3.out.trans (HB.out.mono HB3.out.size))
    have HEr := Lib.hid (HKE.out.after HB.out)
    have HDr := Lib.hid (HKD.out.after HB.out)
    have HPr := Lib.hid (HKP.out.after HB.out)
    obtain ⟨q0, q1, q2⟩ := HEr.out.cells3
    have ql := HEr.out.lt
    obtain ⟨p0, p1, pl⟩ := blk2 HPr.out
    by_cases h0 : k = 0
    · subst h0
      go_wp2_with fail
      refine (edit_nil _ _ _ _ _ _).mono ?_
      rintro e w4 ⟨rfl, hb4⟩
      have HB4 := Lib.hid (HB.out.trans (hb4.mono HB.out.size))
      clear hb4 q0 q1 q2 ql p0 p1 pl
      obtain ⟨w5, hw5, HC5, HR5⟩ := boxV w4 52 #[.int .i64 0, .int .i64 0]
      have HB5 := Lib.hid (HB4.out.trans (HC5.out.mono HB4.out.size))
      obtain ⟨r0, r1, rl⟩ := blk2 HR5.out
      go_upto_region 6 with fail
      rw [← hw5]
      clear hw5
      go_wp2_with fail
      refine (docT_nil _).mono ?_
      rintro e w6 ⟨rfl, hw⟩
      subst hw
      go_wp2_with fail
      refine (docB_nil _).mono ?_
      rintro e w7 ⟨rfl, hw⟩
      subst hw
      go_wp2_with fail
      refine (docN_nil n _).mono ?_
      rintro e w8 ⟨rfl, hw⟩
      subst hw
      go_wp2_with fail
      refine (docP_nil n _).mono ?_
      rintro e w9 ⟨rfl, hw⟩
      subst hw
      go_wp2_with fail
      refine (undo_nil _).mono ?_
      rintro e w10 ⟨rfl, hw⟩
      subst hw
      go_wp2
      go_roundw
      case rel => exact ⟨1, by omega, by go_num, HB5⟩
      case measure => simp [intOf]
    · by_cases h1 : k = 1
      · subst h1
        go_wp2_with fail
        refine (edit_zero _ _ _ _ _ D _ _ wr HDr.out rfl).mono ?_
        rintro e w4 ⟨rfl, hb4⟩
        have HB4 := Lib.hid (HB.out.trans (hb4.mono HB.out.size))
        clear hb4 q0 q1 q2 ql p0 p1 pl
        obtain ⟨w5, hw5, HC5, HR5⟩ := boxV w4 52 #[.int .i64 0, .int .i64 0]
        have HB5 := Lib.hid (HB4.out.trans (HC5.out.mono HB4.out.size))
        obtain ⟨r0, r1, rl⟩ := blk2 HR5.out
        have HD5 := Lib.hid (HKD.out.after HB5.out)
        have C6 := docT_raw D _ _ none 0 0 [] w5 HD5.out rfl Row.nil rfl (by omega)
        unfold RetInts at C6
        replace C6 := Lib.hid C6
        go_upto_region 6 with fail
        rw [← hw5]
        clear hw5
        go_wp2_with fail
        refine C6.out.mono ?_
        rintro e w6 ⟨A6, c6, rfl, -, -, -, -, hb6⟩
        have HB6 := Lib.hid (HB5.out.trans (hb6.mono HB5.out.size))
        have HD6 := Lib.hid (HKD.out.after HB6.out)
        have C7 := docB_raw D _ _ none 0 0 [] w6 HD6.out rfl Row.nil rfl (by omega)
        unfold RetInts at C7
        replace C7 := Lib.hid C7
        clear hb6 C6 r0 r1 rl
        go_wp2_with fail
        refine C7.out.mono ?_
        rintro e w7 ⟨A7, c7, rfl, -, -, -, -, hb7⟩
        have HB7 := Lib.hid (HB6.out.trans (hb7.mono HB6.out.size))
        have HD7 := Lib.hid (HKD.out.after HB7.out)
        have C8 := Lib.hid (docN_raw D _ _ none 0 0 [] n w7 HD7.out rfl Row.nil rfl (by omega) List.Pairwise.nil)
        have C9 := Lib.hid (docP_raw D _ _ none 0 0 [] n w7 HD7.out rfl Row.nil rfl (by omega) List.Pairwise.nil)
        have e8 : nextL [] n = -1 := rfl
        have e9 : prevL [] n = -1 := rfl
        rw [e8] at C8
        rw [e9] at C9
        have C10 := Lib.hid (undo_no D _ none 0 _ w7 HD7.out rfl)
        clear hb7 C7 e8 e9
        go_wp2_with fail
        refine C8.out.mono ?_
        rintro e w8 ⟨rfl, hw⟩
        subst hw
        go_wp2_with fail
        refine C9.out.mono ?_
        rintro e w9 ⟨rfl, hw⟩
        subst hw
        go_wp2_with fail
        refine C10.out.mono ?_
        rintro e w10 ⟨rfl, hb10⟩
        have HB10 := Lib.hid (HB7.out.trans (hb10.mono HB7.out.size))
        clear hb10 C8 C9 C10
        go_wp2
        go_roundw
        case rel => exact ⟨2, by omega, by go_num, HB10⟩
        case measure => simp [intOf]
      · obtain rfl : k = 2 := by omega
        clear q0 q1 q2 ql p0 p1 pl
        go_wp2_with fail
        refine (alive54_any _).mono ?_
        rintro e w11 ⟨rfl, hb11⟩
        have HB11 := Lib.hid (HBR.out.trans (hb11.mono HBR.out.size))
        clear hb11
        go_wp2
        go_ret
        exact ⟨rfl, HB11.out⟩
theorem own : ownKnob Try.prog.godebug = none := by kernel_rfl
theorem laidOut : laidOutB Try.prog = true := by kernel_rfl
set_option maxRecDepth 100000 in
theorem lifted (os : Os) (started : os.Started) (H : Type) (enc : TypeId × Value → H) :
    ReturnsInHanded {} Try.checked os 8 .any (Rows.incbreakNobodySpec.pre6 enc Try.prog Try.f8 Rows.incbreakNobodyRow.domain false) (Rows.incbreakNobodySpec.post enc Try.prog Try.f8 false true false false) := by
  refine returnsInHanded_of_change (C := Try.checked) own started (by kernel_rfl) Try.func8
    (ChangeSpec.witness6 (enc := enc) (C := Try.checked) false ⟨#[], #[.agg #[.int .i64 0, .int .i64 0, .slice none 0 0], .int .i64 0], []⟩ 8 (by kernel_rfl) (by kernel_rfl) (by kernel_rfl) (by kernel_rfl)) ?_
  intro W base args ds gs before hval0 hW hcnd _
  have hval : ∀ (j : Nat) t v, Try.f8.params[j]? = some t → args[j]? = some v → Value.okWide Try.prog W .any base t v := hval0
  have hW' := hW
  obtain ⟨p, q, hA0, hV, rfl, hfz, hnd⟩ := hW
  have hA : DataW.TrodAll enc Try.prog W 0 (fun _ => true) true Try.f8.params.toList args.toList ds p := hA0
  rw [Try.params8] at hA hval
  obtain ⟨v0, v1, d0, d1, p0, p1, rfl, rfl, rfl, h0, h1⟩ := trodAll_two hA
  obtain ⟨rfl, rfl⟩ := trodVars_none hV
  obtain ⟨a0, b0, A0, c0, l0, rfl, hc0, hm0, hR0⟩ := open_edit54 (hval 0 46 v0 rfl rfl) h0
  obtain ⟨s1, rfl, rfl, rfl, ws1⟩ := open_int Try.underlying3 (hval 1 3 v1 rfl rfl) h1
  refine (walk W a0 b0 A0 c0 l0 hc0 hm0 hR0 s1 (wf_i64 ws1)).mono fun e W' ⟨he, hb⟩ => ⟨_, he, ?_⟩
  exact law_post laidOut (by rw [Try.params8]; exact of_decide_eq_true (by kernel_rfl)) rfl rfl Try.underlying4 hW' rfl hb
theorem holds : Rows.IncbreakNobodySaid :=
  OpenClaim.holds_of_wide 8 Try.f8 rfl rfl rfl rfl rfl rfl rfl ⟨rfl, rfl, rfl, rfl, rfl⟩ rfl rfl rfl rfl rfl (by kernel_rfl) Try.func8 (by kernel_rfl)
    (of_decide_eq_true (by kernel_rfl)) (by unfold Func.isWrapper; first | (rw [if_pos (by decide +kernel)]; kernel_rfl) | (rw [if_neg (by decide +kernel)]; exact ⟨rfl, rfl⟩))
    (fun os started H enc _ => lifted os started H enc)
end Go.Proofs.Ytkpblieanejmeaa.LNobody
namespace Go.Proofs.Ytkpblieanejmeaa
theorem incbreakNobody_holds : Rows.IncbreakNobodySaid := LNobody.holds
end Go.Proofs.Ytkpblieanejmeaa
