/-
  AnywhereStarts: for every input the law returns true, and its arguments read as before. No condition.
-/
import Derived.Test.YtkoojoogddndnaaRows
import Derived.Test.YtkoojoogddndnaaLift
import Derived.Test.YtkoojoogddndnaaBo0
import Derived.Test.YtkoojoogddndnaaBo4
import Derived.BigQuiet
namespace Go.Proofs.Ytkoojoogddndnaa.LStarts
open Go.ChangeShapes Go.WideShapes Go.ChangeAt Go.RowKit Go.UtYtkoojoogddndnaa Go.Joins
set_option maxRecDepth 100000 in
set_option maxHeartbeats 4000000 in
theorem walk (w : World) (y : TA) (t : BT) (hB : TabAt w w.heap.size y t) (A : Option Addr) (c : Nat) (l : List Int) (hc : l.length ≤ c) (_hm : c ≤ maxLen) (hR : Row w w.heap.size A (ints l)) (a : Int) (_ha : -9223372036854775808 ≤ a ∧ a ≤ 9223372036854775807) :
    Calls Try.prog 4 #[y.val t, .slice A l.length c, .int .i64 a] w fun e w' => e = .returned (.bool true) ∧ Below w.heap.size w w' := by
  have CF := Lib.hid (fun (u : World) (hu : Below w.heap.size w u) (v : Bool) (hv : v = true ↔ smT t ∧ l.length ≤ 40) => few31_any y t A l.length c u (hB.below hu).lt v hv)
  have HP0 : ∃ (P : Prop), P = ((0 ≤ a ∧ a ≤ (l.length : Int)) ∧ fitsL t l ∧ validT t) := ⟨_, rfl⟩
  obtain ⟨r0, r1, hv1, hv2⟩ : ∃ (r0 : Nat) (r1 : Int), ((0 ≤ a ∧ a ≤ (l.length : Int)) ∧ fitsL t l ∧ validT t → (r0, r1) = startN t.ln l a.toNat) ∧ (¬ ((0 ≤ a ∧ a ≤ (l.length : Int)) ∧ fitsL t l ∧ validT t) → r0 = 0 ∧ r1 = 0) := by
    by_cases h : (0 ≤ a ∧ a ≤ (l.length : Int)) ∧ fitsL t l ∧ validT t
    · exact ⟨_, _, fun _ => rfl, fun h' => absurd h h'⟩
    · exact ⟨0, 0, fun h' => absurd h' h, fun _ => ⟨rfl, rfl⟩⟩
  obtain ⟨s1, hs1, hs2⟩ : ∃ (s1 : Int), ((0 ≤ a ∧ a ≤ (l.length : Int)) ∧ fitsL t l ∧ validT t → s1 = runA t.ln 0 (l.take a.toNat)) ∧ (¬ ((0 ≤ a ∧ a ≤ (l.length : Int)) ∧ fitsL t l ∧ validT t) → s1 = 0) := by
    by_cases h : (0 ≤ a ∧ a ≤ (l.length : Int)) ∧ fitsL t l ∧ validT t
    · exact ⟨_, fun _ => rfl, fun h' => absurd h h'⟩
    · exact ⟨0, fun h' => absurd h' h, fun _ => rfl⟩
  have CA := Lib.hid (fun (u : World) (hu : Below w.heap.size w u) (hs : smT t ∧ l.length ≤ 40) => start_any y t A c l a u (hB.below hu).lt ⟨by have := hs.1.1.1; omega, by have := hs.1.1.2; omega⟩ (hR.below hu).lt (by omega) r0 r1 hv1 hv2)
  have CR := Lib.hid (fun (u : World) (hu : Below w.heap.size w u) (hs : smT t ∧ l.length ≤ 40) => rstart_any y t A c l a u (hB.below hu).lt ⟨by have := hs.1.1.1; omega, by have := hs.1.1.2; omega⟩ (hR.below hu).lt (by omega) r0 r1 hv1 hv2)
  have CS := Lib.hid (fun (u : World) (hu : Below w.heap.size w u) (hs : smT t ∧ l.length ≤ 40) => state_any y t A c l a u (hB.below hu).lt ⟨by have := hs.1.1.1; omega, by have := hs.1.1.2; omega⟩ (hR.below hu).lt (by omega) hc s1 hs1 hs2)
  have CT := Lib.hid (fun (u : World) (hu : Below w.heap.size w u) (hs : smT t ∧ l.length ≤ 40) => rstate_any y t A c l a u (hB.below hu).lt ⟨by have := hs.1.1.1; omega, by have := hs.1.1.2; omega⟩ (hR.below hu).lt (by omega) s1 hs1 hs2)
  unfold TA.val at CF CA CR CS CT ⊢
  obtain ⟨w1, hw1, HB1, HK1⟩ := boxT w 28 y t
  obtain ⟨q0, q1, q2, q3, q4, q5, ql⟩ := tab6 HK1.out
  clear hB HP0 hv1 hv2 hs1 hs2
  have HS0 : Hid (∀ h : smT t ∧ l.length ≤ 40, h = h) := Lib.hid (fun _ => rfl)
  obtain ⟨n, hn⟩ : ∃ n, l.length = n := ⟨_, rfl⟩
  have HN := Lib.hid hn
  by_cases hs : smT t ∧ l.length ≤ 40
  case neg =>
    have CF1 := Lib.hid (CF.out w1 HB1.out false ⟨fun h => (by cases h), fun h => absurd h hs⟩)
    rw [hn] at CF1 ⊢
    clear CF CA CR CS CT HS0 hs hn hR hc
    go_enter Try.func4, Try.ntmps4
    go_upto_region 1 with fail
    rw [← hw1]
    clear hw1
    go_wp2_with fail
    refine CF1.out.mono ?_
    rintro e w2 ⟨rfl, hb2⟩
    have HB2 := Lib.hid (HB1.out.trans (hb2.mono HB1.out.size))
    clear hb2
    go_wp2_with fail
    refine (alive_any _).mono ?_
    rintro e w3 ⟨rfl, hb3⟩
    have HB3 := Lib.hid (HB2.out.trans (hb3.mono HB2.out.size))
    clear hb3
    go_wp2
    go_ret
    exact ⟨rfl, HB3.out⟩
  case pos =>
    have CF1 := Lib.hid (CF.out w1 HB1.out true ⟨fun _ => hs, fun _ => rfl⟩)
    have CA1 := Lib.hid (fun (u : World) (hu : Below w.heap.size w u) => CA.out u hu hs)
    have CR1 := Lib.hid (fun (u : World) (hu : Below w.heap.size w u) => CR.out u hu hs)
    have CS1 := Lib.hid (fun (u : World) (hu : Below w.heap.size w u) => CS.out u hu hs)
    have CT1 := Lib.hid (fun (u : World) (hu : Below w.heap.size w u) => CT.out u hu hs)
    rw [hn] at CF1 CA1 CR1 CS1 CT1 ⊢
    clear CF CA CR CS CT HS0 hs hn hR hc
    go_enter Try.func4, Try.ntmps4
    go_upto_region 1 with fail
    rw [← hw1]
    clear hw1
    go_wp2_with fail
    refine CF1.out.mono ?_
    rintro e w2 ⟨rfl, hb2⟩
    have HB2 := Lib.hid (HB1.out.trans (hb2.mono HB1.out.size))
    have HK2 := Lib.hid (HK1.out.after hb2)
    clear hb2 q0 q1 q2 q3 q4 q5 ql
    obtain ⟨q0, q1, q2, q3, q4, q5, ql⟩ := tab6 HK2.out
    go_wp2_with fail
    refine (CA1.out w2 HB2.out).mono ?_
    rintro e w3 ⟨rfl, hb3⟩
    have HB3 := Lib.hid (HB2.out.trans (hb3.mono HB2.out.size))
    have HK3 := Lib.hid (HK2.out.after hb3)
    clear hb3 q0 q1 q2 q3 q4 q5 ql
    obtain ⟨q0, q1, q2, q3, q4, q5, ql⟩ := tab6 HK3.out
    go_wp2_with fail
    refine (CR1.out w3 HB3.out).mono ?_
    rintro e w4 ⟨rfl, hb4⟩
    have HB4 := Lib.hid (HB3.out.trans (hb4.mono HB3.out.size))
    have HK4 := Lib.hid (HK3.out.after hb4)
    clear hb4 q0 q1 q2 q3 q4 q5 ql
    obtain ⟨q0, q1, q2, q3, q4, q5, ql⟩ := tab6 HK4.out
    go_wp2
    refine wp_region_tree (fun w' => Blk w' w.heap.size 28 (y.cs t)) (.float 0 (.float 1 (.float 2 (.float 3 (.float 4 (.float 5 (.float 6 (.float 7 (.float 8 (.float 9 (.float 10 (.float 11 (.float 13 (.float 14 (.float 15 (.one 12 (.one 16 (.float 17 (.float 18 (.float 19 (.one 20 (.float 21 (.float 22 .done))))))))))))))))))))))) (by kernel_rfl) (by kernel_rfl) (fun _ _ d _ _ h => by cases d <;> exact h) HK4.out.drew ?_
    repeat (first
      | (refine wpTr_fskip (by simp only [List.getElem?_toArray, List.getElem?_cons_zero, List.getElem?_cons_succ]; rfl) (by rfl) ?_
         simp only [Act.put, List.setIfInBounds_toArray, List.set_cons_zero, List.set_cons_succ])
      | (refine wpTr_float (v := ?_) (by simp only [List.getElem?_toArray, List.getElem?_cons_zero, List.getElem?_cons_succ]; rfl) (by rfl) (fun w' hS => ?_) ?_
         rotate_left
         ((try (obtain ⟨e0', e1', e2', e3', e4', e5', el'⟩ := tab6 hS)); go_simp; first | done | rfl)
         simp only [Act.put, List.setIfInBounds_toArray, List.set_cons_zero, List.set_cons_succ]))
    refine wpTr_one ?_
    refine stepTr_K (by simp only [List.getElem?_toArray, List.getElem?_cons_zero, List.getElem?_cons_succ]; rfl) (by rfl) (fun K hK => ?_)
    go_simp
    refine (CS1.out w4.drew HB4.out.drew).mono ?_
    rintro e w5 ⟨rfl, hb5⟩
    have HBL5 : Hid (Below w4.heap.size w4 w5) := (Below.refl _ _).drew.trans hb5
    have HB5 := Lib.hid (HB4.out.trans (HBL5.out.mono HB4.out.size))
    have HK5 := Lib.hid (HK4.out.after HBL5.out)
    refine hK.out _ _ HK5.out ?_
    clear hK K hb5
    try simp only [Act.put, List.setIfInBounds_toArray, List.set_cons_zero, List.set_cons_succ]
    refine wpTr_one ?_
    refine stepTr_K (by simp only [List.getElem?_toArray, List.getElem?_cons_zero, List.getElem?_cons_succ]; rfl) (by rfl) (fun K hK => ?_)
    go_simp
    refine (CT1.out w5 HB5.out).mono ?_
    rintro e w6 ⟨rfl, hb6⟩
    have HB6 := Lib.hid (HB5.out.trans (hb6.mono HB5.out.size))
    have HK6 := Lib.hid (HK5.out.after hb6)
    refine hK.out _ _ HK6.out ?_
    clear hK K hb6
    try simp only [Act.put, List.setIfInBounds_toArray, List.set_cons_zero, List.set_cons_succ]
    repeat (first
      | (refine wpTr_fskip (by simp only [List.getElem?_toArray, List.getElem?_cons_zero, List.getElem?_cons_succ]; rfl) (by rfl) ?_
         simp only [Act.put, List.setIfInBounds_toArray, List.set_cons_zero, List.set_cons_succ])
      | (refine wpTr_float (v := ?_) (by simp only [List.getElem?_toArray, List.getElem?_cons_zero, List.getElem?_cons_succ]; rfl) (by rfl) (fun w' hS => ?_) ?_
         rotate_left
         ((skip); go_simp; first | done | rfl)
         simp only [Act.put, List.setIfInBounds_toArray, List.set_cons_zero, List.set_cons_succ]))
    refine wpTr_one ?_
    refine stepTr_K (by simp only [List.getElem?_toArray, List.getElem?_cons_zero, List.getElem?_cons_succ]; rfl) (by rfl) (fun K hK => ?_)
    go_simp
    refine (alive_any w6).mono ?_
    rintro e w7 ⟨rfl, hb7⟩
    have HB7 := Lib.hid (HB6.out.trans (hb7.mono HB6.out.size))
    have HK7 := Lib.hid (HK6.out.after hb7)
    refine hK.out _ _ HK7.out ?_
    clear hK K hb7
    try simp only [Act.put, List.setIfInBounds_toArray, List.set_cons_zero, List.set_cons_succ]
    repeat (first
      | (refine wpTr_fskip (by simp only [List.getElem?_toArray, List.getElem?_cons_zero, List.getElem?_cons_succ]; rfl) (by rfl) ?_
         simp only [Act.put, List.setIfInBounds_toArray, List.set_cons_zero, List.set_cons_succ])
      | (refine wpTr_float (v := ?_) (by simp only [List.getElem?_toArray, List.getElem?_cons_zero, List.getElem?_cons_succ]; rfl) (by rfl) (fun w' hS => ?_) ?_
         rotate_left
         ((skip); go_simp; first | done | rfl)
         simp only [Act.put, List.setIfInBounds_toArray, List.set_cons_zero, List.set_cons_succ]))
    refine wpTr_done ?_
    go_wp2
    go_ret
    exact ⟨rfl, HB7.out⟩
theorem own : ownKnob Try.prog.godebug = none := by kernel_rfl
theorem laidOut : laidOutB Try.prog = true := by kernel_rfl
set_option maxRecDepth 100000 in
theorem lifted (os : Os) (started : os.Started) (H : Type) (enc : TypeId × Value → H) :
    ReturnsInHanded {} Try.checked os 4 .any (Rows.anywhereStartsSpec.pre6 enc Try.prog Try.f4 Rows.anywhereStartsRow.domain false) (Rows.anywhereStartsSpec.post enc Try.prog Try.f4 false true false false) := by
  refine returnsInHanded_of_change (C := Try.checked) own started (by kernel_rfl) Try.func4
    (ChangeSpec.witness6 (enc := enc) (C := Try.checked) false ⟨#[], #[.agg #[.slice none 0 0, .slice none 0 0, .slice none 0 0, .slice none 0 0, .slice none 0 0, .slice none 0 0], .slice none 0 0, .int .i64 0], []⟩ 8 (by kernel_rfl) (by kernel_rfl) (by kernel_rfl) (by kernel_rfl)) ?_
  intro W base args ds gs before hval0 hW hcnd _
  have hval : ∀ (j : Nat) t v, Try.f4.params[j]? = some t → args[j]? = some v → Value.okWide Try.prog W .any base t v := hval0
  have hW' := hW
  obtain ⟨p, q, hA0, hV, rfl, hfz, hnd⟩ := hW
  have hA : DataW.TrodAll enc Try.prog W 0 (fun _ => true) true Try.f4.params.toList args.toList ds p := hA0
  rw [Try.params4] at hA hval
  obtain ⟨v0, v1, v2, d0, d1, d2, p0, p1, p2, rfl, rfl, rfl, h0, h1, h2⟩ := trodAll_three hA
  obtain ⟨rfl, rfl⟩ := trodVars_none hV
  obtain ⟨y0, t0, rfl, hB0⟩ := open_table (hval 0 28 v0 rfl rfl) h0
  obtain ⟨ad1, le1, ca1, rfl⟩ := okWide_slice Try.underlying23 (hval 1 23 v1 rfl rfl)
  obtain ⟨fu1, hf1⟩ := h1
  obtain ⟨A1, c1, xs1, hv1, hc1, hm1, hR1, -⟩ := open_row (v := .slice ad1 le1 ca1) Try.underlying23 Try.underlying3 (by kernel_rfl) hf1
  injection hv1 with ea1 eb1 ec1
  subst ea1 eb1 ec1
  obtain ⟨s2, rfl, rfl, rfl, ws2⟩ := open_int Try.underlying3 (hval 2 3 v2 rfl rfl) h2
  refine (walk W y0 t0 hB0 ad1 ca1 xs1 hc1 hm1 hR1 s2 (wf_i64 ws2)).mono fun e W' ⟨he, hb⟩ => ⟨_, he, ?_⟩
  exact law_post laidOut (by rw [Try.params4]; exact of_decide_eq_true (by kernel_rfl)) rfl rfl Try.underlying4 hW' rfl hb
theorem holds : Rows.AnywhereStartsSaid :=
  OpenClaim.holds_of_wide 4 Try.f4 rfl rfl rfl rfl rfl rfl rfl ⟨rfl, rfl, rfl, rfl, rfl⟩ rfl rfl rfl rfl rfl (by kernel_rfl) Try.func4 (by kernel_rfl)
    (of_decide_eq_true (by kernel_rfl)) (by unfold Func.isWrapper; first | (rw [if_pos (by decide +kernel)]; kernel_rfl) | (rw [if_neg (by decide +kernel)]; exact ⟨rfl, rfl⟩))
    (fun os started H enc _ => lifted os started H enc)
end Go.Proofs.Ytkoojoogddndnaa.LStarts
namespace Go.Proofs.Ytkoojoogddndnaa
theorem anywhereStarts_holds : Rows.AnywhereStartsSaid := LStarts.holds
end Go.Proofs.Ytkoojoogddndnaa
