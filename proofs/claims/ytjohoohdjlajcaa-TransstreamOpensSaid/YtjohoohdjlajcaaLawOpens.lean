/-
  TransstreamOpens: for every input the law returns true, and its arguments read as before. No condition.
-/
import Derived.Test.YtjohoohdjlajcaaRows
import Derived.Test.YtjohoohdjlajcaaLift
import Derived.Test.YtjohoohdjlajcaaTlo
import Derived.Test.YtjohoohdjlajcaaSa0
import Derived.Test.YtjohoohdjlajcaaTu3
import Derived.Test.YtjohoohdjlajcaaTu5
import Derived.Deep.CutBlock
import Derived.Test.YtjohoohdjlajcaaSr0
namespace Go.Proofs.Ytjohoohdjlajcaa.LOpens
open Go.ChangeShapes Go.WideShapes Go.ChangeAt Go.RowKit Go.UtYtjohoohdjlajcaa Go.Joins
set_option maxRecDepth 100000 in
set_option maxHeartbeats 4000000 in
theorem walk (w : World) (A : Option Addr) (c : Nat) (rules : List TR) (lc : rules.length ≤ c) (lm : c ≤ maxLen) (hR : RulesAt w w.heap.size A rules) (At : Option Addr) (ct : Nat) (text : List Int) (_lct : text.length ≤ ct) (_lmt : ct ≤ maxLen) (_hT : Row w w.heap.size At (ints text)) :
    Calls Try.prog 5 #[.slice A rules.length c, .slice At text.length ct] w fun e w' => e = .returned (.bool true) ∧ Below w.heap.size w w' := by
  have HR := Lib.hid hR
  have HLC := Lib.hid lc
  have HLM := Lib.hid lm
  obtain ⟨nt, hnt⟩ : ∃ n, text.length = n := ⟨_, rfl⟩
  rw [hnt]
  clear hR _hT lc lm _lct _lmt hnt
  by_cases hf : smB rules
  · by_cases h60 : 60 < nt
    · go_enter Try.func5, Try.ntmps5
      go_wp2_with fail
      refine (smallB_any A c rules w HR.out true ⟨fun _ => hf, fun _ => rfl⟩).mono ?_
      rintro e w1 ⟨rfl, hb1⟩
      have HB1 := Lib.hid hb1
      have HR1 := Lib.hid (HR.out.below hb1).lt
      clear hb1
      go_wp2_with fail
      refine (awake_any _).mono ?_
      rintro e w2 ⟨rfl, hb2⟩
      have HB2 := Lib.hid (HB1.out.trans (hb2.mono HB1.out.size))
      clear hb2
      go_wp2
      go_ret
      exact ⟨rfl, HB2.out⟩
    go_enter Try.func5, Try.ntmps5
    go_wp2_with fail
    refine (smallB_any A c rules w HR.out true ⟨fun _ => hf, fun _ => rfl⟩).mono ?_
    rintro e w1 ⟨rfl, hb1⟩
    have HB1 := Lib.hid hb1
    have HR1 := Lib.hid (HR.out.below hb1).lt
    clear hb1
    go_wp2_with fail
    refine (new_any A c rules w1 HR1.out hf.smR (fun r hr => by have := (hf.2 r hr).1; omega) HLC.out HLM.out (by have := hf.1; omega)).mono ?_
    rintro e w2 ⟨hb2, hnew⟩
    have HB2 := Lib.hid (HB1.out.trans (hb2.mono HB1.out.size))
    have HR2 := Lib.hid (HR1.out.below hb2).lt
    rcases hnew with ⟨h0, rfl⟩ | ⟨h0, gs, B1, cr, Ar, rfl, g1, g2, g3, g4, g5, g6, g7⟩
    · go_wp2_with fail
      refine (rnew_any A c rules w2 HR2.out hf.smR HLC.out HLM.out).mono ?_
      rintro e w3 ⟨hb3, hnew⟩
      have HB3 := Lib.hid (HB2.out.trans (hb3.mono HB2.out.size))
      rcases hnew with ⟨_, rfl⟩ | ⟨h1, _⟩
      · obtain ⟨x, hx⟩ : ∃ x, chkL rules = x := ⟨_, rfl⟩
        rw [hx] at h0 ⊢
        clear hx hb3 hb2
        obtain ⟨w4, h4, HB4, HZ4⟩ : ∃ v, v = w3.alloc (.cells (strC none 0 0 0 none 0 0 0 0 false) 53) ∧ Hid (Below w.heap.size w v) ∧ Hid (Blk v w3.heap.size 53 (strC none 0 0 0 none 0 0 0 0 false)) := ⟨_, rfl, HB3.out.alloc HB3.out.size _, Blk.new _ _ _⟩
        unfold strC at h4
        simp only [Int.natCast_zero] at h4
        go_wp2_with fail
        rw [← h4]
        clear h4
        refine (write_shut w3.heap.size _ At nt ct w4 HZ4.out rfl).mono ?_
        rintro e w5 ⟨rfl, hb⟩
        have HB5 := Lib.hid (HB4.out.trans (hb.mono HB4.out.size))
        have HZ5 := Lib.hid (HZ4.out.after hb)
        clear hb
        go_wp2_with fail
        refine (close_shut w3.heap.size _ w5 HZ5.out rfl).mono ?_
        rintro e w6 ⟨rfl, hb⟩
        have HB6 := Lib.hid (HB5.out.trans (hb.mono HB5.out.size))
        have HZ6 := Lib.hid (HZ5.out.after hb)
        clear hb
        go_wp2_with fail
        refine (write_nil At nt ct w6).mono ?_
        rintro e w7 ⟨rfl, hb⟩
        have HB7 := Lib.hid (HB6.out.trans (hb.mono HB6.out.size))
        have HZ7 := Lib.hid (HZ6.out.after hb)
        clear hb
        go_wp2_with fail
        refine (close_nil w7).mono ?_
        rintro e w8 ⟨rfl, hb⟩
        have HB8 := Lib.hid (HB7.out.trans (hb.mono HB7.out.size))
        have HZ8 := Lib.hid (HZ7.out.after hb)
        clear hb
        go_wp2_with fail
        refine (pend_shut w3.heap.size _ w8 HZ8.out rfl).mono ?_
        rintro e w9 ⟨rfl, hb⟩
        have HB9 := Lib.hid (HB8.out.trans (hb.mono HB8.out.size))
        clear hb
        go_wp2_with fail
        refine (pend_nil w9).mono ?_
        rintro e wa ⟨rfl, hb⟩
        have HBa := Lib.hid (HB9.out.trans (hb.mono HB9.out.size))
        clear hb
        go_wp2_with fail
        refine (awake_any _).mono ?_
        rintro e wb ⟨rfl, hbb⟩
        have HBb := Lib.hid (HBa.out.trans (hbb.mono HBa.out.size))
        clear hbb
        go_wp2
        go_ret
        exact ⟨rfl, HBb.out⟩
      · exact absurd h1 h0
    · clear g1 g2 g3 g4 g5 g6 g7
      go_wp2_with fail
      refine (rnew_any A c rules w2 HR2.out hf.smR HLC.out HLM.out).mono ?_
      rintro e w3 ⟨hb3, hnew⟩
      have HB3 := Lib.hid (HB2.out.trans (hb3.mono HB2.out.size))
      rcases hnew with ⟨h1, _⟩ | ⟨_, gr, rfl, _, _⟩
      · exact absurd h0 h1
      clear hb3 hb2
      obtain ⟨w4, h4, HB4, HZ4⟩ : ∃ v, v = w3.alloc (.cells (strC none 0 0 0 none 0 0 0 0 false) 53) ∧ Hid (Below w.heap.size w v) ∧ Hid (Blk v w3.heap.size 53 (strC none 0 0 0 none 0 0 0 0 false)) := ⟨_, rfl, HB3.out.alloc HB3.out.size _, Blk.new _ _ _⟩
      unfold strC at h4
      simp only [Int.natCast_zero] at h4
      go_wp2_with fail
      rw [← h4]
      clear h4
      refine (write_shut w3.heap.size _ At nt ct w4 HZ4.out rfl).mono ?_
      rintro e w5 ⟨rfl, hb⟩
      have HB5 := Lib.hid (HB4.out.trans (hb.mono HB4.out.size))
      have HZ5 := Lib.hid (HZ4.out.after hb)
      clear hb
      go_wp2_with fail
      refine (close_shut w3.heap.size _ w5 HZ5.out rfl).mono ?_
      rintro e w6 ⟨rfl, hb⟩
      have HB6 := Lib.hid (HB5.out.trans (hb.mono HB5.out.size))
      have HZ6 := Lib.hid (HZ5.out.after hb)
      clear hb
      go_wp2_with fail
      refine (write_nil At nt ct w6).mono ?_
      rintro e w7 ⟨rfl, hb⟩
      have HB7 := Lib.hid (HB6.out.trans (hb.mono HB6.out.size))
      have HZ7 := Lib.hid (HZ6.out.after hb)
      clear hb
      go_wp2_with fail
      refine (close_nil w7).mono ?_
      rintro e w8 ⟨rfl, hb⟩
      have HB8 := Lib.hid (HB7.out.trans (hb.mono HB7.out.size))
      have HZ8 := Lib.hid (HZ7.out.after hb)
      clear hb
      go_wp2_with fail
      refine (pend_shut w3.heap.size _ w8 HZ8.out rfl).mono ?_
      rintro e w9 ⟨rfl, hb⟩
      have HB9 := Lib.hid (HB8.out.trans (hb.mono HB8.out.size))
      clear hb
      go_wp2_with fail
      refine (pend_nil w9).mono ?_
      rintro e wa ⟨rfl, hb⟩
      have HBa := Lib.hid (HB9.out.trans (hb.mono HB9.out.size))
      clear hb
      go_wp2_with fail
      refine (awake_any _).mono ?_
      rintro e wb ⟨rfl, hbb⟩
      have HBb := Lib.hid (HBa.out.trans (hbb.mono HBa.out.size))
      clear hbb
      go_wp2
      go_ret
      exact ⟨rfl, HBb.out⟩
  · go_enter Try.func5, Try.ntmps5
    go_wp2_with fail
    refine (smallB_any A c rules w HR.out false ⟨fun h => (by cases h), fun h => absurd h hf⟩).mono ?_
    rintro e w1 ⟨rfl, hb1⟩
    have HB1 := Lib.hid hb1
    have HR1 := Lib.hid (HR.out.below hb1).lt
    clear hb1
    go_wp2_with fail
    refine (awake_any _).mono ?_
    rintro e w2 ⟨rfl, hb2⟩
    have HB2 := Lib.hid (HB1.out.trans (hb2.mono HB1.out.size))
    clear hb2
    go_wp2
    go_ret
    exact ⟨rfl, HB2.out⟩
theorem own : ownKnob Try.prog.godebug = none := by kernel_rfl
theorem laidOut : laidOutB Try.prog = true := by kernel_rfl
set_option maxRecDepth 100000 in
theorem lifted (os : Os) (started : os.Started) (H : Type) (enc : TypeId × Value → H) :
    ReturnsInHanded {} Try.checked os 5 .any (Rows.transstreamOpensSpec.pre6 enc Try.prog Try.f5 Rows.transstreamOpensRow.domain false) (Rows.transstreamOpensSpec.post enc Try.prog Try.f5 false true false false) := by
  refine returnsInHanded_of_change (C := Try.checked) own started (by kernel_rfl) Try.func5
    (ChangeSpec.witness6 (enc := enc) (C := Try.checked) false ⟨#[], #[.slice none 0 0, .slice none 0 0], []⟩ 8 (by kernel_rfl) (by kernel_rfl) (by kernel_rfl) (by kernel_rfl)) ?_
  intro W base args ds gs before hval0 hW hcnd _
  have hval : ∀ (j : Nat) t v, Try.f5.params[j]? = some t → args[j]? = some v → Value.okWide Try.prog W .any base t v := hval0
  have hW' := hW
  obtain ⟨p, q, hA0, hV, rfl, hfz, hnd⟩ := hW
  have hA : DataW.TrodAll enc Try.prog W 0 (fun _ => true) true Try.f5.params.toList args.toList ds p := hA0
  rw [Try.params5] at hA hval
  obtain ⟨v0, v1, d0, d1, p0, p1, rfl, rfl, rfl, h0, h1⟩ := trodAll_two hA
  obtain ⟨rfl, rfl⟩ := trodVars_none hV
  obtain ⟨ad0, le0, ca0, rfl⟩ := okWide_slice Try.underlying22 (hval 0 22 v0 rfl rfl)
  obtain ⟨fu0, hf0⟩ := h0
  obtain ⟨A0, c0, xs0, hv0, hc0, hm0, hR0⟩ := open_rules (v := .slice ad0 le0 ca0) hf0
  injection hv0 with ea0 eb0 ec0
  subst ea0 eb0 ec0
  obtain ⟨ad1, le1, ca1, rfl⟩ := okWide_slice Try.underlying31 (hval 1 31 v1 rfl rfl)
  obtain ⟨fu1, hf1⟩ := h1
  obtain ⟨A1, c1, xs1, hv1, hc1, hm1, hR1, -⟩ := open_row (v := .slice ad1 le1 ca1) Try.underlying31 Try.underlying3 (by kernel_rfl) hf1
  injection hv1 with ea1 eb1 ec1
  subst ea1 eb1 ec1
  refine (walk W ad0 ca0 xs0 hc0 hm0 hR0 ad1 ca1 xs1 hc1 hm1 hR1).mono fun e W' ⟨he, hb⟩ => ⟨_, he, ?_⟩
  exact law_post laidOut (by rw [Try.params5]; exact of_decide_eq_true (by kernel_rfl)) rfl rfl Try.underlying4 hW' rfl hb
theorem holds : Rows.TransstreamOpensSaid :=
  OpenClaim.holds_of_wide 5 Try.f5 rfl rfl rfl rfl rfl rfl rfl ⟨rfl, rfl, rfl, rfl, rfl⟩ rfl rfl rfl rfl rfl (by kernel_rfl) Try.func5 (by kernel_rfl)
    (of_decide_eq_true (by kernel_rfl)) (by unfold Func.isWrapper; first | (rw [if_pos (by decide +kernel)]; kernel_rfl) | (rw [if_neg (by decide +kernel)]; exact ⟨rfl, rfl⟩))
    (fun os started H enc _ => lifted os started H enc)
end Go.Proofs.Ytjohoohdjlajcaa.LOpens
namespace Go.Proofs.Ytjohoohdjlajcaa
theorem transstreamOpens_holds : Rows.TransstreamOpensSaid := LOpens.holds
end Go.Proofs.Ytjohoohdjlajcaa
