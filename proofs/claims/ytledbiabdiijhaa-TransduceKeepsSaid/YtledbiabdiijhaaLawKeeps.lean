/-
  TransduceKeeps: for every input the law returns true, and its arguments read as before. No condition.
-/
import Derived.Test.YtledbiabdiijhaaRows
import Derived.Test.YtledbiabdiijhaaLift
import Derived.Test.YtledbiabdiijhaaTlo
import Derived.Test.YtledbiabdiijhaaTu4
import Derived.Test.YtledbiabdiijhaaTu5
import Derived.Test.YtledbiabdiijhaaTu6
import Derived.Deep.CutBlock
namespace Go.Proofs.Ytledbiabdiijhaa.LKeeps
open Go.ChangeShapes Go.WideShapes Go.ChangeAt Go.RowKit Go.UtYtledbiabdiijhaa Go.Joins
theorem keep_snoc {α : Type} {l : List α} {P : α → Prop} {k : Nat} {s : α} (h : ∀ s ∈ l.take k, P s) (hk : l[k]? = some s) (hp : P s) : ∀ s ∈ l.take (k + 1), P s := by
  intro t ht
  obtain ⟨hk', e⟩ := List.getElem?_eq_some_iff.1 hk
  rw [List.take_succ_eq_append_getElem hk', e] at ht
  rcases List.mem_append.1 ht with ht | ht
  · exact h t ht
  · rw [List.mem_singleton.1 ht]
    exact hp
theorem data_sub {rules : List TR} {P : TR → Prop} (h : ∀ r ∈ rules, P r) : ∀ r ∈ dataL rules, P r := fun r hr => by
  unfold dataL at hr
  by_cases hc : chkL rules = 0
  · rw [if_pos hc] at hr
    exact h r hr
  · rw [if_neg hc] at hr
    simp at hr
set_option maxRecDepth 100000 in
set_option maxHeartbeats 4000000 in
theorem walk (w : World) (A : Option Addr) (c : Nat) (rules : List TR) (lc : rules.length ≤ c) (lm : c ≤ maxLen) (hR : RulesAt w w.heap.size A rules) (At : Option Addr) (ct : Nat) (text : List Int) (lct : text.length ≤ ct) (lmt : ct ≤ maxLen) (hT : Row w w.heap.size At (ints text)) :
    Calls Try.prog 5 #[.slice A rules.length c, .slice At text.length ct] w fun e w' => e = .returned (.bool true) ∧ Below w.heap.size w w' := by
  have HR := Lib.hid hR
  have HT := Lib.hid hT
  have HLC := Lib.hid lc
  have HLM := Lib.hid lm
  have lmt2 := Nat.le_trans lct lmt
  by_cases hf : smL rules ∧ text.length ≤ 40
  · have hsm := hf.1.smR
    have hrl := hf.1.1
    have htl := hf.2
    have HSO := Lib.hid hf.1.2
    clear hR hT lc lm lct lmt
    go_enter Try.func5, Try.ntmps5
    go_wp2_with fail
    refine (few_any A At c ct rules text w HR.out HLC.out HLM.out true ⟨fun _ => hf, fun _ => rfl⟩).mono ?_
    rintro e w1 ⟨rfl, hb1⟩
    have HB1 := Lib.hid hb1
    have HR1 := Lib.hid (HR.out.below hb1).lt
    have HT1 := Lib.hid (HT.out.below hb1).lt
    clear hb1
    clear HR HT
    obtain ⟨nt, hnt⟩ : ∃ n, text.length = n := ⟨_, rfl⟩
    obtain ⟨rn, hrn⟩ : ∃ n, rules.length = n := ⟨_, rfl⟩
    have HLC' := HLC
    rw [hrn] at hrl HLC'
    rw [hnt] at htl lmt2
    rw [hrn, hnt]
    have HNT := Lib.hid hnt
    have HRN := Lib.hid hrn
    have hs1 := HB1.out.size
    clear hnt hrn hf
    go_wp2_with fail
    go_loopw [5] (fun i wr => ∃ k : Nat, k ≤ rn ∧ i = .int .i64 (k : Int) ∧ Hid (∀ r ∈ rules.take k, ∀ s ∈ r.mat, ∀ c ∈ text, ¬ hasP s c) ∧ Hid (Below w1.heap.size w1 wr)) (fun i _ => rn - (intOf i).toNat)
    case atStart => exact ⟨0, by omega, rfl, fun r hr => by simp at hr, Below.refl _ _⟩
    case round =>
      obtain ⟨wo, hwo⟩ : ∃ x, x = wr := ⟨_, rfl⟩
      subst hwo
      obtain ⟨i, hi, rfl, HI, HBo⟩ := hrel
      have hso := HBo.out.size
      by_cases hin : i < rn
      · obtain ⟨br, or, v0, v1, v2, v3, r, rfl, hbr, hxr, HRA, c0, c1, c2, c3⟩ := HR1.out.at_ (k := i) (by rw [HRN.out]; exact hin)
        obtain ⟨Ab, cb, Am, cm, Aa, ca, Ar, cr, hvs, ⟨_, rm, _, _⟩, _, ⟨m1, m2⟩, _⟩ := HRA.out
        simp only [List.cons.injEq, and_true] at hvs
        obtain ⟨rfl, rfl, rfl, rfl⟩ := hvs
        have RM := Lib.hid rm
        have hm10 := (HSO.out r (List.mem_of_getElem? hxr.out)).2.1.2
        obtain ⟨nm, hnm⟩ : ∃ n, r.mat.length = n := ⟨_, rfl⟩
        rw [hnm] at m1 hm10 c1
        unfold maxLen at m2
        have HNM := Lib.hid hnm
        clear rm HRA hnm c0 c2 c3
        have d1 := (HBo.out.cell (p := ⟨br, or + i * 4 + 1, none⟩) hbr).trans c1
        go_wp2_with fail
        go_loopw [6] (fun k wr => ∃ q : Nat, q ≤ nm ∧ k = .int .i64 (q : Int) ∧ Hid (∀ s ∈ r.mat.take q, ∀ c ∈ text, ¬ hasP s c) ∧ Hid (Below w1.heap.size w1 wr)) (fun k _ => nm - (intOf k).toNat)
        case atStart => exact ⟨0, by omega, rfl, fun s hs => by simp at hs, HBo⟩
        case round =>
          obtain ⟨wp, hwp⟩ : ∃ x, x = wr := ⟨_, rfl⟩
          subst hwp
          obtain ⟨q, hq, rfl, HQ, HBp⟩ := hrel
          have hsp := HBp.out.size
          have d2 := (HBp.out.cell (p := ⟨br, or + i * 4 + 1, none⟩) hbr).trans c1
          by_cases hqn : q < nm
          · obtain ⟨bs, os, A', c', s, rfl, hbs, hxs, cs, l1, l2, HS⟩ := RM.out.at_ (k := q) (by rw [HNM.out]; exact hqn)
            obtain ⟨ns, hns⟩ : ∃ n, s.length = n := ⟨_, rfl⟩
            have HL := Lib.hid (Nat.le_trans l1 l2)
            rw [hns] at cs l1
            have HNS := Lib.hid hns
            clear hns
            go_wp2_with fail
            go_loopw [7] (fun m wr => ∃ j : Nat, j ≤ nt ∧ m = .int .i64 (j : Int) ∧ Hid (∀ c ∈ text.take j, ¬ hasP s c) ∧ Hid (Below w1.heap.size w1 wr)) (fun m _ => nt - (intOf m).toNat)
            case atStart => exact ⟨0, by omega, rfl, fun c hc => by simp at hc, HBp⟩
            case round =>
              obtain ⟨j, hj, rfl, HJ, HB⟩ := hrel
              have hs := HB.out.size
              have d3 := (HB.out.cell (p := ⟨br, or + i * 4 + 1, none⟩) hbr).trans c1
              have d4 := (HB.out.cell (p := ⟨bs, os + q, none⟩) hbs).trans cs
              by_cases hjn : j < nt
              · obtain ⟨bt, ot, y, rfl, hbt, hxt, cct⟩ := (HT1.out.below HB.out).at_int (k := j) (by rw [HNT.out]; exact hjn)
                have HH : Hid (∀ (v' : Bool), decide (hasP s y) = v' → Calls Try.prog 18 #[.agg #[.slice A' ns c'], .int .i64 y] wr.drew fun e w' => e = .returned (.bool v') ∧ Below wr.drew.heap.size wr.drew w') := by
                  intro v' h2
                  rw [← HNS.out]
                  exact has2_any A' c' s y wr.drew ((HS.out.below HB.out).more hs) HL.out v' h2
                go_wp2_with fail
                refine wp_region_tree (fun w' => w'.cell? ⟨br, or + i * 4 + 1, none⟩ = some (.slice (some ⟨bs, os, none⟩) nm cm) ∧ w'.cell? ⟨bs, os + q, none⟩ = some (.slice A' ns c') ∧ w'.cell? ⟨bt, ot + j, none⟩ = some (.int .i64 y)) (.float 0 (.float 1 (.float 2 (.float 3 (.float 4 (.float 5 (.float 6 (.float 7 (.float 8 (.float 9 (.float 10 (.float 11 (.one 12 .done))))))))))))) (by kernel_rfl) (by kernel_rfl) (fun _ _ d _ _ h => by cases d <;> exact h) ⟨d3, d4, cct⟩ ?_
                repeat (first
                  | (refine wpTr_fskip (by simp only [List.getElem?_toArray, List.getElem?_cons_zero, List.getElem?_cons_succ]; rfl) (by rfl) ?_
                     simp only [Act.put, List.setIfInBounds_toArray, List.set_cons_zero, List.set_cons_succ])
                  | (refine wpTr_float (v := ?_) (by simp only [List.getElem?_toArray, List.getElem?_cons_zero, List.getElem?_cons_succ]; rfl) (by rfl) (fun w' hS => ?_) ?_
                     rotate_left
                     ((obtain ⟨e1, e2, e3⟩ := hS); go_simp; first | done | rfl)
                     simp only [Act.put, List.setIfInBounds_toArray, List.set_cons_zero, List.set_cons_succ]))
                refine wpTr_one ?_
                refine stepTr_K (by simp only [List.getElem?_toArray, List.getElem?_cons_zero, List.getElem?_cons_succ]; rfl) (by rfl) (fun K hK => ?_)
                go_simp
                by_cases hy : hasP s y
                · refine (HH.out true (decide_eq_true hy)).mono ?_
                  rintro e w3 ⟨rfl, hb3⟩
                  have HB3 : Hid (Below w1.heap.size w1 w3) := HB.out.drew.trans (hb3.mono hs)
                  refine hK.out _ _ ⟨(HB3.out.cell (p := ⟨br, or + i * 4 + 1, none⟩) hbr).trans c1, (HB3.out.cell (p := ⟨bs, os + q, none⟩) hbs).trans cs, (hb3.cell (p := ⟨bt, ot + j, none⟩) (by show bt < wr.heap.size; omega)).trans cct⟩ ?_
                  clear hK K hb3
                  try simp only [Act.put, List.setIfInBounds_toArray, List.set_cons_zero, List.set_cons_succ]
                  refine wpTr_done ?_
                  go_wp2_with fail
                  refine (alive_any _).mono ?_
                  rintro e w4 ⟨rfl, hb4⟩
                  have HB4 := Lib.hid (HB1.out.trans ((HB3.out.trans (hb4.mono HB3.out.size)).mono hs1))
                  clear hb4
                  go_wp2
                  go_ret
                  exact ⟨rfl, HB4.out⟩
                · refine (HH.out false (decide_eq_false hy)).mono ?_
                  rintro e w3 ⟨rfl, hb3⟩
                  have HB3 : Hid (Below w1.heap.size w1 w3) := HB.out.drew.trans (hb3.mono hs)
                  have HJ' := Lib.hid (keep_snoc HJ.out hxt.out hy)
                  refine hK.out _ _ ⟨(HB3.out.cell (p := ⟨br, or + i * 4 + 1, none⟩) hbr).trans c1, (HB3.out.cell (p := ⟨bs, os + q, none⟩) hbs).trans cs, (hb3.cell (p := ⟨bt, ot + j, none⟩) (by show bt < wr.heap.size; omega)).trans cct⟩ ?_
                  clear hK K hb3
                  try simp only [Act.put, List.setIfInBounds_toArray, List.set_cons_zero, List.set_cons_succ]
                  refine wpTr_done ?_
                  go_wp2
                  go_roundw
                  case rel => exact ⟨j + 1, by omega, by go_num, HJ', HB3⟩
                  case measure => simp [intOf]; omega
              · obtain rfl : nt = j := by omega
                have HQ' := Lib.hid (keep_snoc (P := fun s => ∀ c ∈ text, ¬ hasP s c) HQ.out hxs.out (fun c hc => HJ.out c (by rw [List.take_of_length_le (by rw [HNT.out]; exact Nat.le_refl _)]; exact hc)))
                go_wp2
                go_roundw
                case rel => exact ⟨q + 1, by omega, by go_num, HQ', HB⟩
                case measure => simp [intOf]; omega
          · obtain rfl : nm = q := by omega
            have HI' := Lib.hid (keep_snoc (P := fun r => ∀ s ∈ r.mat, ∀ c ∈ text, ¬ hasP s c) HI.out hxr.out (fun s hs => HQ.out s (by rw [List.take_of_length_le (by rw [HNM.out]; exact Nat.le_refl _)]; exact hs)))
            go_wp2
            go_roundw
            case rel => exact ⟨i + 1, by omega, by go_num, HI', HBp⟩
            case measure => simp [intOf]; omega
      · obtain rfl : rn = i := by omega
        have HK : Hid (outR (dataL rules) text 0 = text) := by
          have := keep_out (data_mat rules) (data_sub (P := fun r => ∀ s ∈ r.mat, ∀ c ∈ text, ¬ hasP s c) (fun r hr => HI.out r (by rw [List.take_of_length_le (by rw [HRN.out]; exact Nat.le_refl _)]; exact hr))) text.length 0 (by omega)
          rw [List.drop_zero] at this
          exact this
        have HAP := pApply_any A At c ct rules text wo (HR1.out.below HBo.out).lt hsm HLC.out HLM.out (by rw [HRN.out]; omega) (HT1.out.below HBo.out).lt (by rw [HNT.out]; omega) text HK.out
        unfold RetI at HAP
        rw [HRN.out, HNT.out] at HAP
        replace HAP := Lib.hid HAP
        go_wp2_with fail
        refine HAP.out.mono ?_
        rintro e w3 ⟨A3, c3, rfl, _, _, hr3, hb3⟩
        have HB3 := Lib.hid (HBo.out.trans (hb3.mono hso))
        have HA3 := Lib.hid hr3
        clear hb3 hr3
        go_wp2_with fail
        refine (requal_v A3 At c3 ct _ nt nt text text w3 HA3.out (HT1.out.below HB3.out).lt HNT.out HNT.out lmt2 lmt2 true (by simp)).mono ?_
        rintro e w4 ⟨rfl, hb4⟩
        have HB4 := Lib.hid (HB3.out.trans (hb4.mono HB3.out.size))
        clear hb4
        go_wp2_with fail
        refine (alive_any _).mono ?_
        rintro e w5 ⟨rfl, hb5⟩
        have HB5 := Lib.hid (HB1.out.trans ((HB4.out.trans (hb5.mono HB4.out.size)).mono hs1))
        clear hb5
        go_wp2
        go_ret
        exact ⟨rfl, HB5.out⟩
  · clear hR hT lc lm lct lmt
    go_enter Try.func5, Try.ntmps5
    go_wp2_with fail
    refine (few_any A At c ct rules text w HR.out HLC.out HLM.out false ⟨fun h => (by cases h), fun h => absurd h hf⟩).mono ?_
    rintro e w1 ⟨rfl, hb1⟩
    have HB1 := Lib.hid hb1
    have HR1 := Lib.hid (HR.out.below hb1).lt
    have HT1 := Lib.hid (HT.out.below hb1).lt
    clear hb1
    go_wp2_with fail
    refine (alive_any _).mono ?_
    rintro e w2 ⟨rfl, hb2⟩
    have HB2 := Lib.hid (HB1.out.trans (hb2.mono HB1.out.size))
    clear hb2
    go_wp2
    go_ret
    exact ⟨rfl, HB2.out⟩
theorem own : ownKnob Try.prog.godebug = none := by kernel_rfl
theorem laidOut : laidOutB Try.prog = true := by kernel_rfl
set_option maxRecDepth 100000 in
theorem lifted (os : Os) (started : os.Started) (H : Type) (enc : TypeId × Value → H) :
    ReturnsInHanded {} Try.checked os 5 .any (Rows.transduceKeepsSpec.pre6 enc Try.prog Try.f5 Rows.transduceKeepsRow.domain false) (Rows.transduceKeepsSpec.post enc Try.prog Try.f5 false true false false) := by
  refine returnsInHanded_of_change (C := Try.checked) own started (by kernel_rfl) Try.func5
    (ChangeSpec.witness6 (enc := enc) (C := Try.checked) false ⟨#[], #[.slice none 0 0, .slice none 0 0], []⟩ 8 (by kernel_rfl) (by kernel_rfl) (by kernel_rfl) (by kernel_rfl)) ?_
  intro W base args ds gs before hval0 hW hcnd _
  have hval : ∀ (j : Nat) t v, Try.f5.params[j]? = some t → args[j]? = some v → Value.okWide Try.prog W .any base t v := hval0
  have hW' := hW
  obtain ⟨p, q, hA0, hV, rfl, hfz, hnd⟩ := hW
  have hA : DataW.TrodAll enc Try.prog W 0 (fun _ => true) true Try.f5.params.toList args.toList ds p := hA0
  rw [Try.params5] at hA hval
  obtain ⟨v0, v1, d0, d1, p0, p1, rfl, rfl, rfl, h0, h1⟩ := trodAll_two hA
  obtain ⟨rfl, rfl⟩ := trodVars_none hV
  obtain ⟨ad0, le0, ca0, rfl⟩ := okWide_slice Try.underlying22 (hval 0 22 v0 rfl rfl)
  obtain ⟨fu0, hf0⟩ := h0
  obtain ⟨A0, c0, xs0, hv0, hc0, hm0, hR0⟩ := open_rules (v := .slice ad0 le0 ca0) hf0
  injection hv0 with ea0 eb0 ec0
  subst ea0 eb0 ec0
  obtain ⟨ad1, le1, ca1, rfl⟩ := okWide_slice Try.underlying23 (hval 1 23 v1 rfl rfl)
  obtain ⟨fu1, hf1⟩ := h1
  obtain ⟨A1, c1, xs1, hv1, hc1, hm1, hR1, -⟩ := open_row (v := .slice ad1 le1 ca1) Try.underlying23 Try.underlying3 (by kernel_rfl) hf1
  injection hv1 with ea1 eb1 ec1
  subst ea1 eb1 ec1
  refine (walk W ad0 ca0 xs0 hc0 hm0 hR0 ad1 ca1 xs1 hc1 hm1 hR1).mono fun e W' ⟨he, hb⟩ => ⟨_, he, ?_⟩
  exact law_post laidOut (by rw [Try.params5]; exact of_decide_eq_true (by kernel_rfl)) rfl rfl Try.underlying4 hW' rfl hb
theorem holds : Rows.TransduceKeepsSaid :=
  OpenClaim.holds_of_wide 5 Try.f5 rfl rfl rfl rfl rfl rfl rfl ⟨rfl, rfl, rfl, rfl, rfl⟩ rfl rfl rfl rfl rfl (by kernel_rfl) Try.func5 (by kernel_rfl)
    (of_decide_eq_true (by kernel_rfl)) (by unfold Func.isWrapper; first | (rw [if_pos (by decide +kernel)]; kernel_rfl) | (rw [if_neg (by decide +kernel)]; exact ⟨rfl, rfl⟩))
    (fun os started H enc _ => lifted os started H enc)
end Go.Proofs.Ytledbiabdiijhaa.LKeeps
namespace Go.Proofs.Ytledbiabdiijhaa
theorem transduceKeeps_holds : Rows.TransduceKeepsSaid := LKeeps.holds
end Go.Proofs.Ytledbiabdiijhaa
