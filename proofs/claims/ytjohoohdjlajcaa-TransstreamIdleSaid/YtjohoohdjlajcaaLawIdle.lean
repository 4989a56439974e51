/-
  TransstreamIdle: for every input the law returns true, and its arguments read as before. No condition.
-/
import Derived.Test.YtjohoohdjlajcaaRows
import Derived.Test.YtjohoohdjlajcaaLift
import Derived.Test.YtjohoohdjlajcaaTlo
import Derived.Test.YtjohoohdjlajcaaSa0
import Derived.Test.YtjohoohdjlajcaaTu3
import Derived.Test.YtjohoohdjlajcaaTu5
import Derived.Deep.CutBlock
import Derived.Test.YtjohoohdjlajcaaSb0
namespace Go.Proofs.Ytjohoohdjlajcaa.LIdle
open Go.ChangeShapes Go.WideShapes Go.ChangeAt Go.RowKit Go.UtYtjohoohdjlajcaa Go.Joins
theorem keep_snoc {α : Type} {l : List α} {P : α → Prop} {k : Nat} {s : α} (h : ∀ s ∈ l.take k, P s) (hk : l[k]? = some s) (hp : P s) : ∀ s ∈ l.take (k + 1), P s := by
  intro t ht
  obtain ⟨hk', e⟩ := List.getElem?_eq_some_iff.1 hk
  rw [List.take_succ_eq_append_getElem hk', e] at ht
  rcases List.mem_append.1 ht with ht | ht
  · exact h t ht
  · rw [List.mem_singleton.1 ht]
    exact hp
set_option maxRecDepth 100000 in
set_option maxHeartbeats 4000000 in
theorem walk (w : World) (A : Option Addr) (c : Nat) (rules : List TR) (lc : rules.length ≤ c) (lm : c ≤ maxLen) (hR : RulesAt w w.heap.size A rules) (At : Option Addr) (ct : Nat) (text : List Int) (lct : text.length ≤ ct) (lmt : ct ≤ maxLen) (hT : Row w w.heap.size At (ints text)) :
    Calls Try.prog 4 #[.slice A rules.length c, .slice At text.length ct] w fun e w' => e = .returned (.bool true) ∧ Below w.heap.size w w' := by
  have HR := Lib.hid hR
  have HT := Lib.hid hT
  have HLC := Lib.hid lc
  have HLM := Lib.hid lm
  have HTC := Lib.hid (And.intro lct lmt)
  obtain ⟨nt, hnt⟩ : ∃ n, text.length = n := ⟨_, rfl⟩
  have HNT := Lib.hid hnt
  have lcn : nt ≤ ct := by omega
  have lmn : ct ≤ 9223372036854775807 := lmt
  rw [hnt]
  clear hR hT lc lm lct lmt hnt
  obtain ⟨i0, hi0, hz0, hz1, hz2⟩ := info_parts in_info
  by_cases hf : ¬ smB rules
  · go_enter Try.func4, Try.ntmps4
    go_wp2_with fail
    refine (smallB_any A c rules w HR.out false ⟨fun h => (by cases h), fun h => absurd h hf⟩).mono ?_
    rintro e w1 ⟨rfl, hb1⟩
    have HB1 := Lib.hid hb1
    have HR1 := Lib.hid (HR.out.below hb1).lt
    clear hb1
    go_wp2_with fail
    refine (awake_any _).mono ?_
    rintro e w2 ⟨rfl, hb2⟩
    have HB2 := Lib.hid (HB1.out.trans (hb2.mono HB1.out.size))
    clear hb2
    go_wp2
    go_ret
    exact ⟨rfl, HB2.out⟩
  replace hf := Classical.not_not.1 hf
  by_cases hg : 60 < nt
  · go_enter Try.func4, Try.ntmps4
    go_wp2_with fail
    refine (smallB_any A c rules w HR.out true ⟨fun _ => hf, fun _ => rfl⟩).mono ?_
    rintro e w1 ⟨rfl, hb1⟩
    have HB1 := Lib.hid hb1
    have HR1 := Lib.hid (HR.out.below hb1).lt
    clear hb1
    go_wp2_with fail
    refine (awake_any _).mono ?_
    rintro e w2 ⟨rfl, hb2⟩
    have HB2 := Lib.hid (HB1.out.trans (hb2.mono HB1.out.size))
    clear hb2
    go_wp2
    go_ret
    exact ⟨rfl, HB2.out⟩
  have HF := Lib.hid hf
  have hd0 : decide (60 < nt) = false := decide_eq_false hg
  go_enter Try.func4, Try.ntmps4
  go_wp2_with fail
  refine (smallB_any A c rules w HR.out true ⟨fun _ => hf, fun _ => rfl⟩).mono ?_
  rintro e w1 ⟨rfl, hb1⟩
  have HB1 := Lib.hid hb1
  have HR1 := Lib.hid (HR.out.below hb1).lt
  clear hb1
  have HT1 := Lib.hid (HT.out.below HB1.out).lt
  clear hf
  go_wp2_with fail
  refine (new_g A c rules.length w.heap.size rules w1 HR1.out HF.out rfl HLC.out HLM.out HB1.out.size).mono ?_
  rintro e w2 (⟨x, hx0, HX, rfl, HBx⟩ | ⟨gs, bf, ah, rfl, HGS, H0, HOK, HBA, HS0, HBx⟩)
  · have HB2 := Lib.hid (HB1.out.trans (HBx.out.mono HB1.out.size))
    go_wp2_with fail
    refine (awake_any _).mono ?_
    rintro e w3 ⟨rfl, hb3⟩
    have HB3 := Lib.hid (HB2.out.trans (hb3.mono HB2.out.size))
    clear hb3
    go_wp2
    go_ret
    exact ⟨rfl, HB3.out⟩
  have HB2 := Lib.hid (HB1.out.trans (HBx.out.mono HB1.out.size))
  have HR2 := Lib.hid (HR1.out.below HBx.out).lt
  have HT2 := Lib.hid (HT1.out.below HBx.out).lt
  have HSE := Lib.hid (HS0.out (fun _ => False) (fun _ h => h.elim))
  obtain ⟨rn, hrn⟩ : ∃ n, rules.length = n := ⟨_, rfl⟩
  have HRN := Lib.hid hrn
  have hrl := HF.out.1
  have HLC' := HLC
  rw [hrn] at hrl HLC'
  rw [hrn]
  clear hrn
  have hs1 := HB2.out.size
  go_wp2_with fail
  go_loopw [7] (fun i wr => ∃ k : Nat, k ≤ rn ∧ i = .int .i64 (k : Int) ∧ Hid (∀ r ∈ rules.take k, ∀ s ∈ r.mat, ∀ c ∈ text, ¬ hasP s c) ∧ Hid (Below w2.heap.size w2 wr)) (fun i _ => rn - (intOf i).toNat)
  case atStart => exact ⟨0, by omega, rfl, fun r hr => by simp at hr, Below.refl _ _⟩
  case round =>
    obtain ⟨wo, hwo⟩ : ∃ x, x = wr := ⟨_, rfl⟩
    subst hwo
    obtain ⟨i, hi, rfl, HI, HBo⟩ := hrel
    have hso := HBo.out.size
    by_cases hin : i < rn
    · obtain ⟨br, or, v0, v1, v2, v3, r, rfl, hbr, hxr, HRA, c0, c1, c2, c3⟩ := HR2.out.at_ (k := i) (by rw [HRN.out]; exact hin)
      obtain ⟨Ab, cb, Am, cm, Aa, ca, Ar, cr, hvs, ⟨_, rm, _, _⟩, _, ⟨m1, m2⟩, _⟩ := HRA.out
      simp only [List.cons.injEq, and_true] at hvs
      obtain ⟨rfl, rfl, rfl, rfl⟩ := hvs
      have RM := Lib.hid rm
      have hm10 := (HF.out.2 r (List.mem_of_getElem? hxr.out)).1.2.1
      obtain ⟨nm, hnm⟩ : ∃ n, r.mat.length = n := ⟨_, rfl⟩
      rw [hnm] at m1 hm10 c1
      unfold maxLen at m2
      have HNM := Lib.hid hnm
      clear rm HRA hnm c0 c2 c3
      have d1 := (HBo.out.cell (p := ⟨br, or + i * 4 + 1, none⟩) hbr).trans c1
      go_wp2_with fail
      go_loopw [8] (fun k wr => ∃ q : Nat, q ≤ nm ∧ k = .int .i64 (q : Int) ∧ Hid (∀ s ∈ r.mat.take q, ∀ c ∈ text, ¬ hasP s c) ∧ Hid (Below w2.heap.size w2 wr)) (fun k _ => nm - (intOf k).toNat)
      case atStart => exact ⟨0, by omega, rfl, fun s hs => by simp at hs, HBo⟩
      case round =>
        obtain ⟨wp, hwp⟩ : ∃ x, x = wr := ⟨_, rfl⟩
        subst hwp
        obtain ⟨q, hq, rfl, HQ, HBp⟩ := hrel
        have hsp := HBp.out.size
        have d2 := (HBp.out.cell (p := ⟨br, or + i * 4 + 1, none⟩) hbr).trans c1
        by_cases hqn : q < nm
        · obtain ⟨bs, os, A', c', s, rfl, hbs, hxs, cs, l1, l2, HS⟩ := RM.out.at_ (k := q) (by rw [HNM.out]; exact hqn)
          obtain ⟨ns, hns⟩ : ∃ n, s.length = n := ⟨_, rfl⟩
          have HL := Lib.hid (Nat.le_trans l1 l2)
          rw [hns] at cs l1
          have HNS := Lib.hid hns
          clear hns
          go_wp2_with fail
          go_loopw [9] (fun m wr => ∃ j : Nat, j ≤ nt ∧ m = .int .i64 (j : Int) ∧ Hid (∀ c ∈ text.take j, ¬ hasP s c) ∧ Hid (Below w2.heap.size w2 wr)) (fun m _ => nt - (intOf m).toNat)
          case atStart => exact ⟨0, by omega, rfl, fun c hc => by simp at hc, HBp⟩
          case round =>
            obtain ⟨j, hj, rfl, HJ, HB⟩ := hrel
            have hs := HB.out.size
            have d3 := (HB.out.cell (p := ⟨br, or + i * 4 + 1, none⟩) hbr).trans c1
            have d4 := (HB.out.cell (p := ⟨bs, os + q, none⟩) hbs).trans cs
            by_cases hjn : j < nt
            · obtain ⟨bt, ot, y, rfl, hbt, hxt, cct⟩ := (HT2.out.below HB.out).at_int (k := j) (by rw [HNT.out]; exact hjn)
              have HH : Hid (∀ (v' : Bool), decide (hasP s y) = v' → Calls Try.prog 18 #[.agg #[.slice A' ns c'], .int .i64 y] wr.drew fun e w' => e = .returned (.bool v') ∧ Below wr.drew.heap.size wr.drew w') := by
                intro v' h2
                rw [← HNS.out]
                exact has2_any A' c' s y wr.drew ((HS.out.below HB.out).more hs) HL.out v' h2
              go_wp2_with fail
              refine wp_region_tree (fun w' => w'.cell? ⟨br, or + i * 4 + 1, none⟩ = some (.slice (some ⟨bs, os, none⟩) nm cm) ∧ w'.cell? ⟨bs, os + q, none⟩ = some (.slice A' ns c') ∧ w'.cell? ⟨bt, ot + j, none⟩ = some (.int .i64 y)) (.float 0 (.float 1 (.float 2 (.float 3 (.float 4 (.float 5 (.float 6 (.float 7 (.float 8 (.float 9 (.float 10 (.float 11 (.one 12 .done))))))))))))) (by kernel_rfl) (by kernel_rfl) (fun _ _ d _ _ h => by cases d <;> exact h) ⟨d3, d4, cct⟩ ?_
              repeat (first
                | (refine wpTr_fskip (by simp only [List.getElem?_toArray, List.getElem?_cons_zero, List.getElem?_cons_succ]; rfl) (by rfl) ?_
                   simp only [Act.put, List.setIfInBounds_toArray, List.set_cons_zero, List.set_cons_succ])
                | (refine wpTr_float (v := ?_) (by simp only [List.getElem?_toArray, List.getElem?_cons_zero, List.getElem?_cons_succ]; rfl) (by rfl) (fun w' hS => ?_) ?_
                   rotate_left
                   ((obtain ⟨e1, e2, e3⟩ := hS); go_simp; first | done | rfl)
                   simp only [Act.put, List.setIfInBounds_toArray, List.set_cons_zero, List.set_cons_succ]))
              refine wpTr_one ?_
              refine stepTr_K (by simp only [List.getElem?_toArray, List.getElem?_cons_zero, List.getElem?_cons_succ]; rfl) (by rfl) (fun K hK => ?_)
              go_simp
              by_cases hy : hasP s y
              · refine (HH.out true (decide_eq_true hy)).mono ?_
                rintro e w3 ⟨rfl, hb3⟩
                have HB3 : Hid (Below w2.heap.size w2 w3) := HB.out.drew.trans (hb3.mono hs)
                refine hK.out _ _ ⟨(HB3.out.cell (p := ⟨br, or + i * 4 + 1, none⟩) hbr).trans c1, (HB3.out.cell (p := ⟨bs, os + q, none⟩) hbs).trans cs, (hb3.cell (p := ⟨bt, ot + j, none⟩) (by show bt < wr.heap.size; omega)).trans cct⟩ ?_
                clear hK K hb3
                try simp only [Act.put, List.setIfInBounds_toArray, List.set_cons_zero, List.set_cons_succ]
                refine wpTr_done ?_
                have HQ4 := Lib.hid (HB2.out.trans (HB3.out.mono HB2.out.size))
                go_wp2_with fail
                refine (awake_any _).mono ?_
                rintro e w4 ⟨rfl, hb4⟩
                have HB4 := Lib.hid (HQ4.out.trans (hb4.mono HQ4.out.size))
                clear hb4
                go_wp2
                go_ret
                exact ⟨rfl, HB4.out⟩
              · refine (HH.out false (decide_eq_false hy)).mono ?_
                rintro e w3 ⟨rfl, hb3⟩
                have HB3 : Hid (Below w2.heap.size w2 w3) := HB.out.drew.trans (hb3.mono hs)
                have HJ' := Lib.hid (keep_snoc HJ.out hxt.out hy)
                refine hK.out _ _ ⟨(HB3.out.cell (p := ⟨br, or + i * 4 + 1, none⟩) hbr).trans c1, (HB3.out.cell (p := ⟨bs, os + q, none⟩) hbs).trans cs, (hb3.cell (p := ⟨bt, ot + j, none⟩) (by show bt < wr.heap.size; omega)).trans cct⟩ ?_
                clear hK K hb3
                try simp only [Act.put, List.setIfInBounds_toArray, List.set_cons_zero, List.set_cons_succ]
                refine wpTr_done ?_
                go_wp2
                go_roundw
                case rel => exact ⟨j + 1, by omega, by go_num, HJ', HB3⟩
                case measure => simp [intOf]; omega
            · obtain rfl : nt = j := by omega
              have HQ' := Lib.hid (keep_snoc (P := fun s => ∀ c ∈ text, ¬ hasP s c) HQ.out hxs.out (fun c hc => HJ.out c (by rw [List.take_of_length_le (by rw [HNT.out]; exact Nat.le_refl _)]; exact hc)))
              go_wp2
              go_roundw
              case rel => exact ⟨q + 1, by omega, by go_num, HQ', HB⟩
              case measure => simp [intOf]; omega
        · obtain rfl : nm = q := by omega
          have HI' := Lib.hid (keep_snoc (P := fun r => ∀ s ∈ r.mat, ∀ c ∈ text, ¬ hasP s c) HI.out hxr.out (fun s hs => HQ.out s (by rw [List.take_of_length_le (by rw [HNM.out]; exact Nat.le_refl _)]; exact hs)))
          go_wp2
          go_roundw
          case rel => exact ⟨i + 1, by omega, by go_num, HI', HBp⟩
          case measure => simp [intOf]; omega
    · obtain rfl : rn = i := by omega
      have HK : Hid (outR rules text 0 = text) := by
        have := keep_out HOK.out.mat (fun r hr => HI.out r (by rw [List.take_of_length_le (by rw [HRN.out]; exact Nat.le_refl _)]; exact hr)) text.length 0 (by omega)
        rw [List.drop_zero] at this
        exact this
      have HSo := Lib.hid (HSE.out.keep HBo.out.size (fun b hb _ => HBo.out.block b hb))
      have HTo := Lib.hid (HT2.out.below HBo.out).lt
      have HBw := Lib.hid (HB2.out.trans (HBo.out.mono HB2.out.size))
      have hbw := HBw.out.size
      go_wp2_with fail
      refine (write_g _ (fun _ => False) w.heap.size gs rules bf ah [] text [] 0 nt At ct wo HSo.out (fun _ h => h.elim) HOK.out HTo.out HNT.out (by simp; omega) (Got.nil HOK.out)).mono ?_
      rintro e w5 ⟨A5, n5, c5, Y5, ro, p5, rfl, hn5, HC5, HL5, HG5, HR5, HS5, HST⟩
      rw [List.nil_append, List.nil_append] at HG5
      rw [List.nil_append] at HS5
      have HB5 := Lib.hid (HBw.out.trans (HST.out.1.mono (Nat.le_refl _)))
      go_wp2_with fail
      refine (close_g Y5 _ w.heap.size gs rules bf ah text p5 w5 HS5.out HOK.out (by rw [HNT.out]; omega) (HG5.out.le HOK.out).1).mono ?_
      rintro e w6 ⟨A6, n6, c6, rp, rfl, hn6, HC6, HL6, HP6, HR6, HK6, HB6', HF6⟩
      have HB6 := Lib.hid (HB5.out.trans HB6'.out)
      have hbs6 := HB6.out.size
      have HY5 := Lib.hid HS5.out.gY
      have HA6 : Hid (Row w6 w6.heap.size A5 (ints ro)) := Row.more (B := w5.heap.size) (HR5.out.era_keep (E' := fun _ => False) (fun x hx hE => HF6.out.2 x hx (fun e => hE (.inr (e ▸ HY5.out)))) (fun _ _ h => h.elim)).of_era HF6.out.size
      go_upto_region 21 with (first
        | (at_builtin
           refine wpList_append_row _ rfl (.tmp 87) (.tmp 88) _ rfl w.heap.size 3 i0 _ 1 8 Try.underlying31 hi0 hz0 hz1 hz2 rfl (by omega) (.slice none 0 0) 0 (ints []) rfl (own_nil _) _ _ n5 c5 (ints ro) rfl (by rw [ints_len, HL5.out, Nat.mul_one]) HA6.out (ints_one _) (by simp only [maxLen]; omega) (by omega) hbs6 ?_
           intro v w7 o1 g1 t1
           rw [← ints_append] at o1
           obtain ⟨A7, c7, rfl⟩ := ow_slice (m := 0 + n5) o1 rfl
           have O1 := Lib.hid o1
           have G1 := Lib.hid g1
           have T1 := Lib.hid t1
           clear o1 g1 t1))
      have HB7 := Lib.hid (HB6.out.grown G1.out hbs6 (fun x hx => by simp [Value.ownBlock] at hx))
      have hbs7 := HB7.out.size
      have HR7 := Lib.hid (row_grown' HR6.out G1.out (fun x hx => by simp [Value.ownBlock] at hx))
      have HO7 : Hid (w7.ownsRow w.heap.size 3 1 (.slice A7 n5 c7) n5 (ints ro)) := by
        have := O1.out
        rw [Nat.zero_add, List.nil_append] at this
        exact this
      try simp only [Nat.zero_add]
      clear O1 G1 T1
      go_wp2_with (first
        | (at_builtin
           refine wpList_append_row _ rfl (.tmp 90) (.tmp 91) _ rfl w.heap.size 3 i0 _ 1 8 Try.underlying31 hi0 hz0 hz1 hz2 rfl (by omega) (.slice A7 n5 c7) n5 (ints ro) rfl HO7.out _ _ n6 c6 (ints rp) rfl (by rw [ints_len, HL6.out, Nat.mul_one]) HR7.out (ints_one _) (by simp only [maxLen]; omega) (by omega) hbs7 ?_
           intro v w8 o1 g1 t1
           rw [← ints_append] at o1
           obtain ⟨A8, c8, rfl⟩ := ow_slice (m := n5 + n6) o1 rfl
           have O1 := Lib.hid o1
           have G1 := Lib.hid g1
           have T1 := Lib.hid t1
           clear o1 g1 t1))
      have HB8 := Lib.hid (HB7.out.grown G1.out hbs7 (fun x hx => own_base HO7.out x hx))
      have HTX := Lib.hid (HT.out.below HB8.out).lt
      have HALL : Hid (ro ++ rp = text) := by
        show _ = _
        have h1 := HG5.out.all HOK.out
        rw [HP6.out, HK.out] at h1
        exact h1.symm
      rw [HALL.out] at O1
      have HN8 : Hid (n5 + n6 = nt) := by
        show _ = _
        rw [← HNT.out, ← HALL.out, List.length_append, HL5.out, HL6.out]
      rw [HN8.out] at O1 ⊢
      go_wp2_with fail
      refine (requal_v A8 At c8 ct _ _ _ text text w8 (ow_row O1.out).1 HTX.out HNT.out HNT.out (by simp only [maxLen]; omega) (by simp only [maxLen]; omega) true (by simp)).mono ?_
      rintro e w9 ⟨rfl, hb9⟩
      have HB9 := Lib.hid (HB8.out.trans (hb9.mono HB8.out.size))
      clear hb9
      go_wp2_with fail
      refine (awake_any _).mono ?_
      rintro e wa ⟨rfl, hba⟩
      have HBa := Lib.hid (HB9.out.trans (hba.mono HB9.out.size))
      clear hba
      go_wp2
      go_ret
      exact ⟨rfl, HBa.out⟩
theorem own : ownKnob Try.prog.godebug = none := by kernel_rfl
theorem laidOut : laidOutB Try.prog = true := by kernel_rfl
set_option maxRecDepth 100000 in
theorem lifted (os : Os) (started : os.Started) (H : Type) (enc : TypeId × Value → H) :
    ReturnsInHanded {} Try.checked os 4 .any (Rows.transstreamIdleSpec.pre6 enc Try.prog Try.f4 Rows.transstreamIdleRow.domain false) (Rows.transstreamIdleSpec.post enc Try.prog Try.f4 false true false false) := by
  refine returnsInHanded_of_change (C := Try.checked) own started (by kernel_rfl) Try.func4
    (ChangeSpec.witness6 (enc := enc) (C := Try.checked) false ⟨#[], #[.slice none 0 0, .slice none 0 0], []⟩ 8 (by kernel_rfl) (by kernel_rfl) (by kernel_rfl) (by kernel_rfl)) ?_
  intro W base args ds gs before hval0 hW hcnd _
  have hval : ∀ (j : Nat) t v, Try.f4.params[j]? = some t → args[j]? = some v → Value.okWide Try.prog W .any base t v := hval0
  have hW' := hW
  obtain ⟨p, q, hA0, hV, rfl, hfz, hnd⟩ := hW
  have hA : DataW.TrodAll enc Try.prog W 0 (fun _ => true) true Try.f4.params.toList args.toList ds p := hA0
  rw [Try.params4] at hA hval
  obtain ⟨v0, v1, d0, d1, p0, p1, rfl, rfl, rfl, h0, h1⟩ := trodAll_two hA
  obtain ⟨rfl, rfl⟩ := trodVars_none hV
  obtain ⟨ad0, le0, ca0, rfl⟩ := okWide_slice Try.underlying22 (hval 0 22 v0 rfl rfl)
  obtain ⟨fu0, hf0⟩ := h0
  obtain ⟨A0, c0, xs0, hv0, hc0, hm0, hR0⟩ := open_rules (v := .slice ad0 le0 ca0) hf0
  injection hv0 with ea0 eb0 ec0
  subst ea0 eb0 ec0
  obtain ⟨ad1, le1, ca1, rfl⟩ := okWide_slice Try.underlying31 (hval 1 31 v1 rfl rfl)
  obtain ⟨fu1, hf1⟩ := h1
  obtain ⟨A1, c1, xs1, hv1, hc1, hm1, hR1, -⟩ := open_row (v := .slice ad1 le1 ca1) Try.underlying31 Try.underlying3 (by kernel_rfl) hf1
  injection hv1 with ea1 eb1 ec1
  subst ea1 eb1 ec1
  refine (walk W ad0 ca0 xs0 hc0 hm0 hR0 ad1 ca1 xs1 hc1 hm1 hR1).mono fun e W' ⟨he, hb⟩ => ⟨_, he, ?_⟩
  exact law_post laidOut (by rw [Try.params4]; exact of_decide_eq_true (by kernel_rfl)) rfl rfl Try.underlying4 hW' rfl hb
theorem holds : Rows.TransstreamIdleSaid :=
  OpenClaim.holds_of_wide 4 Try.f4 rfl rfl rfl rfl rfl rfl rfl ⟨rfl, rfl, rfl, rfl, rfl⟩ rfl rfl rfl rfl rfl (by kernel_rfl) Try.func4 (by kernel_rfl)
    (of_decide_eq_true (by kernel_rfl)) (by unfold Func.isWrapper; first | (rw [if_pos (by decide +kernel)]; kernel_rfl) | (rw [if_neg (by decide +kernel)]; exact ⟨rfl, rfl⟩))
    (fun os started H enc _ => lifted os started H enc)
end Go.Proofs.Ytjohoohdjlajcaa.LIdle
namespace Go.Proofs.Ytjohoohdjlajcaa
theorem transstreamIdle_holds : Rows.TransstreamIdleSaid := LIdle.holds
end Go.Proofs.Ytjohoohdjlajcaa
