/-
  AnywhereSyncs: for every input the law returns true, and its arguments read as before. No condition.
-/
import Derived.Test.YtkoojoogddndnaaRows
import Derived.Test.YtkoojoogddndnaaLift
import Derived.Test.YtkoojoogddndnaaBo0
import Derived.Test.YtkoojoogddndnaaBo4
import Derived.BigQuiet
namespace Go.Proofs.Ytkoojoogddndnaa.LSyncs
open Go.ChangeShapes Go.WideShapes Go.ChangeAt Go.RowKit Go.UtYtkoojoogddndnaa Go.Joins
set_option maxRecDepth 100000 in
set_option maxHeartbeats 4000000 in
theorem walk (w : World) (y : TA) (t : BT) (hB : TabAt w w.heap.size y t) :
    Calls Try.prog 3 #[y.val t] w fun e w' => e = .returned (.bool true) ∧ Below w.heap.size w w' := by
  have CS := Lib.hid (fun (u : World) (hu : Below w.heap.size w u) (v : Bool) (hv : v = true ↔ smT t) => smT_any y t u (hB.below hu).lt v hv)
  have CA := Lib.hid (fun (u : World) (hu : Below w.heap.size w u) (hs : t.cls.length ≤ 1000 ∧ t.act.length ≤ 1000) => sync_any y t u (hB.below hu).lt hs)
  have CR := Lib.hid (fun (u : World) (hu : Below w.heap.size w u) (hs : t.cls.length ≤ 1000 ∧ t.act.length ≤ 1000) => rsync_any y t u (hB.below hu).lt hs)
  unfold TA.val at CS CA CR ⊢
  unfold RetT at CA CR
  have he3 := eq_t3
  obtain ⟨w1, hw1, HB1, HK1⟩ := boxT w 28 y t
  obtain ⟨q0, q1, q2, q3, q4, q5, ql⟩ := tab6 HK1.out
  have hll := syncL_len (t := t)
  obtain ⟨l, hl⟩ : ∃ l, syncL t = l := ⟨_, rfl⟩
  rw [hl] at CA CR hll
  obtain ⟨n, hn⟩ : ∃ n, l.length = n := ⟨_, rfl⟩
  rw [hn] at CA CR hll
  have HN := Lib.hid hn
  clear hB hl hn
  by_cases hs : smT t
  case neg =>
    go_enter Try.func3, Try.ntmps3
    go_upto_region 1 with fail
    rw [← hw1]
    clear hw1
    go_wp2_with fail
    refine (CS.out w1 HB1.out false ⟨fun h => (by cases h), fun h => absurd h hs⟩).mono ?_
    rintro e w2 ⟨rfl, hb2⟩
    have HB2 := Lib.hid (HB1.out.trans (hb2.mono HB1.out.size))
    clear hb2
    go_wp2_with fail
    refine (alive_any _).mono ?_
    rintro e w3 ⟨rfl, hb3⟩
    have HB3 := Lib.hid (HB2.out.trans (hb3.mono HB2.out.size))
    clear hb3
    go_wp2
    go_ret
    exact ⟨rfl, HB3.out⟩
  case pos =>
    have hsm : t.cls.length ≤ 1000 ∧ t.act.length ≤ 1000 := ⟨by have := hs.1.1; omega, by have := hs.1.2; omega⟩
    go_enter Try.func3, Try.ntmps3
    go_upto_region 1 with fail
    rw [← hw1]
    clear hw1
    go_wp2_with fail
    refine (CS.out w1 HB1.out true ⟨fun _ => hs, fun _ => rfl⟩).mono ?_
    rintro e w2 ⟨rfl, hb2⟩
    have HB2 := Lib.hid (HB1.out.trans (hb2.mono HB1.out.size))
    have HK2 := Lib.hid (HK1.out.after hb2)
    clear hb2 q0 q1 q2 q3 q4 q5 ql
    obtain ⟨q0, q1, q2, q3, q4, q5, ql⟩ := tab6 HK2.out
    go_wp2
    refine wp_region_tree (fun w' => Blk w' w.heap.size 28 (y.cs t)) (.float 0 (.float 2 (.one 1 (.one 3 (.float 4 (.float 5 .done)))))) (by kernel_rfl) (by kernel_rfl) (fun _ _ d _ _ h => by cases d <;> exact h) HK2.out.drew ?_
    repeat (first
      | (refine wpTr_fskip (by simp only [List.getElem?_toArray, List.getElem?_cons_zero, List.getElem?_cons_succ]; rfl) (by rfl) ?_
         simp only [Act.put, List.setIfInBounds_toArray, List.set_cons_zero, List.set_cons_succ])
      | (refine wpTr_float (v := ?_) (by simp only [List.getElem?_toArray, List.getElem?_cons_zero, List.getElem?_cons_succ]; rfl) (by rfl) (fun w' hS => ?_) ?_
         rotate_left
         ((obtain ⟨e0', e1', e2', e3', e4', e5', el'⟩ := tab6 hS); go_simp; first | done | rfl)
         simp only [Act.put, List.setIfInBounds_toArray, List.set_cons_zero, List.set_cons_succ]))
    refine wpTr_one ?_
    refine stepTr_K (by simp only [List.getElem?_toArray, List.getElem?_cons_zero, List.getElem?_cons_succ]; rfl) (by rfl) (fun K hK => ?_)
    go_simp
    refine (CA.out w2.drew HB2.out.drew hsm).mono ?_
    rintro e w4 ⟨A4, c4, rfl, h1, h2, h3, hb4⟩
    have HBL4 : Hid (Below w2.heap.size w2 w4) := (Below.refl _ _).drew.trans hb4
    have HB4 := Lib.hid (HB2.out.trans (HBL4.out.mono HB2.out.size))
    have HK4 := Lib.hid (HK2.out.after HBL4.out)
    have HR4 := Lib.hid h3
    refine hK.out _ _ HK4.out ?_
    clear hK K hb4 h1 h2 h3
    try simp only [Act.put, List.setIfInBounds_toArray, List.set_cons_zero, List.set_cons_succ]
    refine wpTr_one ?_
    refine stepTr_K (by simp only [List.getElem?_toArray, List.getElem?_cons_zero, List.getElem?_cons_succ]; rfl) (by rfl) (fun K hK => ?_)
    go_simp
    refine (CR.out w4 HB4.out hsm).mono ?_
    rintro e w5 ⟨A5, c5, rfl, h1, h2, h3, hb5⟩
    have HB5 := Lib.hid (HB4.out.trans (hb5.mono HB4.out.size))
    have HK5 := Lib.hid (HK4.out.after hb5)
    have HR5 := Lib.hid h3
    have HR4' := Lib.hid (HR4.out.below hb5).lt
    refine hK.out _ _ HK5.out ?_
    clear hK K hb5 h1 h2 h3 HR4
    try simp only [Act.put, List.setIfInBounds_toArray, List.set_cons_zero, List.set_cons_succ]
    repeat (first
      | (refine wpTr_fskip (by simp only [List.getElem?_toArray, List.getElem?_cons_zero, List.getElem?_cons_succ]; rfl) (by rfl) ?_
         simp only [Act.put, List.setIfInBounds_toArray, List.set_cons_zero, List.set_cons_succ])
      | (refine wpTr_float (v := ?_) (by simp only [List.getElem?_toArray, List.getElem?_cons_zero, List.getElem?_cons_succ]; rfl) (by rfl) (fun w' hS => ?_) ?_
         rotate_left
         ((skip); go_simp; first | done | rfl)
         simp only [Act.put, List.setIfInBounds_toArray, List.set_cons_zero, List.set_cons_succ]))
    refine wpTr_done ?_
    have hbs5 := HB5.out.size
    go_wp2
    go_loopw [22] (fun i wr => ∃ k : Nat, k ≤ n ∧ i = .int .i64 (k : Int) ∧ Hid (Below w5.heap.size w5 wr)) (fun i _ => n - (intOf i).toNat)
    case atStart => exact ⟨0, by omega, rfl, Below.refl _ _⟩
    case round =>
      obtain ⟨k, hk, rfl, HB⟩ := hrel
      have hbr := HB.out.size
      have HBw := Lib.hid (HB5.out.trans (HB.out.mono hbs5))
      by_cases hkn : k < n
      · obtain ⟨b, o, x, z, u, hA, hb, hx, c0, c1, c2⟩ := (HR4'.out.below HB.out).at_spn (k := k) (by rw [HN.out]; exact hkn)
        obtain ⟨b', o', x', z', u', hA', hb', hx', d0, d1, d2⟩ := (HR5.out.below HB.out).at_spn (k := k) (by rw [HN.out]; exact hkn)
        have hq : (x, z, u) = (x', z', u') := by
          have h1 := hx.out
          rw [hx'.out] at h1
          exact (Option.some.inj h1).symm
        injection hq with hq1 hq2
        injection hq2 with hq2 hq3
        subst hq1 hq2 hq3 hA hA'
        have hbl : b < wr.heap.size := by omega
        have hbl' : b' < wr.heap.size := by omega
        have HBA := Lib.hid (HB.out.alloc hbr (.cells #[.int .i64 x, .int .i64 z, .int .i64 u] 33))
        have HBA2 := Lib.hid (below_drewN HBA.out 1)
        go_wp2
        go_quiet (fail)
        go_wp2
        go_roundw
        case rel => exact ⟨k + 1, by omega, by go_num, below_drewN HBA.out _⟩
        case measure => simp [intOf]; omega
      · go_wp2_with fail
        refine (alive_any _).mono ?_
        rintro e w7 ⟨rfl, hb7⟩
        have HB7 := Lib.hid (HBw.out.trans (hb7.mono HBw.out.size))
        clear hb7
        go_wp2
        go_ret
        exact ⟨rfl, HB7.out⟩
theorem own : ownKnob Try.prog.godebug = none := by kernel_rfl
theorem laidOut : laidOutB Try.prog = true := by kernel_rfl
set_option maxRecDepth 100000 in
theorem lifted (os : Os) (started : os.Started) (H : Type) (enc : TypeId × Value → H) :
    ReturnsInHanded {} Try.checked os 3 .any (Rows.anywhereSyncsSpec.pre6 enc Try.prog Try.f3 Rows.anywhereSyncsRow.domain false) (Rows.anywhereSyncsSpec.post enc Try.prog Try.f3 false true false false) := by
  refine returnsInHanded_of_change (C := Try.checked) own started (by kernel_rfl) Try.func3
    (ChangeSpec.witness6 (enc := enc) (C := Try.checked) false ⟨#[], #[.agg #[.slice none 0 0, .slice none 0 0, .slice none 0 0, .slice none 0 0, .slice none 0 0, .slice none 0 0]], []⟩ 8 (by kernel_rfl) (by kernel_rfl) (by kernel_rfl) (by kernel_rfl)) ?_
  intro W base args ds gs before hval0 hW hcnd _
  have hval : ∀ (j : Nat) t v, Try.f3.params[j]? = some t → args[j]? = some v → Value.okWide Try.prog W .any base t v := hval0
  have hW' := hW
  obtain ⟨p, q, hA0, hV, rfl, hfz, hnd⟩ := hW
  have hA : DataW.TrodAll enc Try.prog W 0 (fun _ => true) true Try.f3.params.toList args.toList ds p := hA0
  rw [Try.params3] at hA hval
  obtain ⟨v0, vs0, d0, ds0, p0, q0, hargs, rfl, rfl, h0, r0⟩ := trodAll_cons hA
  obtain ⟨rfl, rfl, rfl⟩ := trodAll_nil r0
  obtain rfl : args = #[v0] := by cases args; simp_all
  obtain ⟨rfl, rfl⟩ := trodVars_none hV
  obtain ⟨y0, t0, rfl, hB0⟩ := open_table (hval 0 28 v0 rfl rfl) h0
  refine (walk W y0 t0 hB0).mono fun e W' ⟨he, hb⟩ => ⟨_, he, ?_⟩
  exact law_post laidOut (by rw [Try.params3]; exact of_decide_eq_true (by kernel_rfl)) rfl rfl Try.underlying4 hW' rfl hb
theorem holds : Rows.AnywhereSyncsSaid :=
  OpenClaim.holds_of_wide 3 Try.f3 rfl rfl rfl rfl rfl rfl rfl ⟨rfl, rfl, rfl, rfl, rfl⟩ rfl rfl rfl rfl rfl (by kernel_rfl) Try.func3 (by kernel_rfl)
    (of_decide_eq_true (by kernel_rfl)) (by unfold Func.isWrapper; first | (rw [if_pos (by decide +kernel)]; kernel_rfl) | (rw [if_neg (by decide +kernel)]; exact ⟨rfl, rfl⟩))
    (fun os started H enc _ => lifted os started H enc)
end Go.Proofs.Ytkoojoogddndnaa.LSyncs
namespace Go.Proofs.Ytkoojoogddndnaa
theorem anywhereSyncs_holds : Rows.AnywhereSyncsSaid := LSyncs.holds
end Go.Proofs.Ytkoojoogddndnaa
