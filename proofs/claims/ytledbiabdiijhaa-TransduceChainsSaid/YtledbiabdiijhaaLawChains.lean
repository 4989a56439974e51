/-
  TransduceChains: for every input the law returns true, and its arguments read as before. No condition.
-/
import Derived.Test.YtledbiabdiijhaaRows
import Derived.Test.YtledbiabdiijhaaLift
import Derived.Test.YtledbiabdiijhaaTlo
import Derived.Test.YtledbiabdiijhaaTu4
import Derived.Test.YtledbiabdiijhaaTu5
import Derived.Test.YtledbiabdiijhaaTu6
import Derived.Deep.CutBlock
import Derived.Test.YtledbiabdiijhaaTu7
namespace Go.Proofs.Ytledbiabdiijhaa.LChains
open Go.ChangeShapes Go.WideShapes Go.ChangeAt Go.RowKit Go.UtYtledbiabdiijhaa Go.Joins
theorem keep_snoc {α : Type} {l : List α} {P : α → Prop} {k : Nat} {s : α} (h : ∀ s ∈ l.take k, P s) (hk : l[k]? = some s) (hp : P s) : ∀ s ∈ l.take (k + 1), P s := by
  intro t ht
  obtain ⟨hk', e⟩ := List.getElem?_eq_some_iff.1 hk
  rw [List.take_succ_eq_append_getElem hk', e] at ht
  rcases List.mem_append.1 ht with ht | ht
  · exact h t ht
  · rw [List.mem_singleton.1 ht]
    exact hp
set_option maxRecDepth 100000 in
set_option maxHeartbeats 4000000 in
theorem walk (w : World) (A : Option Addr) (c : Nat) (l : List (List TR)) (_lc : l.length ≤ c) (_lm : c ≤ maxLen) (hR : RulesAt2 w w.heap.size A l) (At : Option Addr) (ct : Nat) (text : List Int) (lct : text.length ≤ ct) (lmt : ct ≤ maxLen) (hT : Row w w.heap.size At (ints text)) :
    Calls Try.prog 6 #[.slice A l.length c, .slice At text.length ct] w fun e w' => e = .returned (.bool true) ∧ Below w.heap.size w w' := by
  have HR := Lib.hid hR
  have HT := Lib.hid hT
  have HLT := Lib.hid (And.intro lct lmt)
  obtain ⟨nl, hnl⟩ : ∃ n, l.length = n := ⟨_, rfl⟩
  obtain ⟨nt, hnt⟩ : ∃ n, text.length = n := ⟨_, rfl⟩
  rw [hnl] at _lc
  rw [hnt] at lct HLT
  rw [hnl, hnt]
  have HNL := Lib.hid hnl
  have HNT := Lib.hid hnt
  unfold maxLen at _lm lmt
  clear hR hT hnl hnt
  by_cases h4 : 4 < nl
  · go_enter Try.func6, Try.ntmps6
    go_wp2_with fail
    refine (alive_any _).mono ?_
    rintro e w2 ⟨rfl, hb2⟩
    have HB2 := Lib.hid ((Lib.hid (Below.refl w.heap.size w)).out.trans (hb2.mono (Lib.hid (Below.refl w.heap.size w)).out.size))
    clear hb2
    go_wp2
    go_ret
    exact ⟨rfl, HB2.out⟩
  by_cases h12 : 12 < nt
  · go_enter Try.func6, Try.ntmps6
    go_wp2_with fail
    refine (alive_any _).mono ?_
    rintro e w2 ⟨rfl, hb2⟩
    have HB2 := Lib.hid ((Lib.hid (Below.refl w.heap.size w)).out.trans (hb2.mono (Lib.hid (Below.refl w.heap.size w)).out.size))
    clear hb2
    go_wp2
    go_ret
    exact ⟨rfl, HB2.out⟩
  have t1 : decide (4 < nl) = false := decide_eq_false (by omega)
  have t2 : decide (12 < nt) = false := decide_eq_false (by omega)
  have HBD0 : Hid (∀ j, j ≤ 0 → (chR (l.take j) text).length ≤ 2000) := fun j hj => by
    obtain rfl : j = 0 := by omega
    rw [List.take_zero]
    show text.length ≤ 2000
    rw [HNT.out]
    omega
  go_enter Try.func6, Try.ntmps6
  go_wp2_with fail
  go_loopw [5, 6] (fun tx i wr => ∃ (k n1 c1 : Nat) (A1 : Option Addr) (t1 : List Int), k ≤ nl ∧ i = .int .i64 (k : Int) ∧ tx = .slice A1 n1 c1 ∧ n1 ≤ 2000 ∧ Hid (t1.length = n1) ∧ Hid (chR (l.take k) text = t1) ∧ Hid (∀ j, j ≤ k → (chR (l.take j) text).length ≤ 2000) ∧ Hid (∀ r ∈ l.take k, smL r) ∧ Hid (Row wr wr.heap.size A1 (ints t1)) ∧ Hid (Below w.heap.size w wr)) (fun _ i _ => nl - (intOf i).toNat)
  case atStart => exact ⟨0, nt, ct, At, text, by omega, rfl, rfl, by omega, HNT, by show _ = _; simp [chR], HBD0, fun r hr => by simp at hr, HT, Below.refl _ _⟩
  case round =>
    obtain ⟨k, n1, c1, A1, t1, hk, rfl, rfl, hn1, HL1, HCH, HBD, HSM, HR1, HB⟩ := hrel
    have hbs := HB.out.size
    by_cases hkn : k < nl
    · obtain ⟨b, o, A', c', r, rfl, hb, hx, cc, l1, l2, HRA⟩ := (HR.out.below HB.out).at_ (k := k) (by rw [HNL.out]; exact hkn)
      have HRW := Lib.hid (HRA.out.more hbs)
      by_cases hsm : smL r
      · have CS := smallR_any A' c' r wr HRW.out l1 l2 true ⟨fun _ => hsm, fun _ => rfl⟩
        have hr6 := hsm.1
        obtain ⟨R1, hR1⟩ : ∃ R1, outR (dataL r) t1 0 = R1 := ⟨_, rfl⟩
        have HAP := fun (u : World) (hu : Below w.heap.size w u) (hu2 : Below wr.heap.size wr u) => pApply_any A' A1 c' c1 r t1 u ((HRW.out.below hu2).lt) hsm.smR l1 l2 (by omega) ((HR1.out.below hu2).lt) (by rw [HL1.out]; omega) R1 hR1
        have HNX : Hid (chR (l.take (k + 1)) text = R1) := by
          show _ = _
          rw [chR_take hx.out, HCH.out, hR1]
        have HSM' := Lib.hid (keep_snoc HSM.out hx.out hsm)
        obtain ⟨rn, hrn⟩ : ∃ n, r.length = n := ⟨_, rfl⟩
        obtain ⟨m1, hm1⟩ : ∃ n, R1.length = n := ⟨_, rfl⟩
        unfold RetI at HAP
        rw [HL1.out, hrn, hm1] at HAP
        rw [hrn] at cc CS
        have HM1 := Lib.hid hm1
        replace HAP := Lib.hid HAP
        replace CS := Lib.hid CS
        clear hR1 hrn l1 l2 hsm hm1
        go_wp2_with fail
        refine CS.out.mono ?_
        rintro e w2 ⟨rfl, hb2⟩
        have HB2 := Lib.hid (HB.out.trans (hb2.mono hbs))
        have HBW2 := Lib.hid hb2
        have cc2 := ((hb2.mono hbs).cell (p := ⟨b, o + k, none⟩) hb).trans cc
        have hs2 := HB2.out.size
        clear hb2
        go_wp2_with fail
        refine (HAP.out w2 HB2.out HBW2.out).mono ?_
        rintro e w3 ⟨A3, c3, rfl, g1, g2, hr3, hb3⟩
        have HB3 := Lib.hid (HB2.out.trans (hb3.mono HB2.out.size))
        have HR3 := Lib.hid hr3
        clear hr3 hb3 g1 g2
        by_cases h2 : 2000 < m1
        · go_wp2_with fail
          refine (alive_any _).mono ?_
          rintro e w4 ⟨rfl, hb4⟩
          have HB4 := Lib.hid (HB3.out.trans (hb4.mono HB3.out.size))
          clear hb4
          go_wp2
          go_ret
          exact ⟨rfl, HB4.out⟩
        · have HBD' : Hid (∀ j, j ≤ k + 1 → (chR (l.take j) text).length ≤ 2000) := fun j hj => by
            rcases Nat.lt_or_ge j (k + 1) with h | h
            · exact HBD.out j (by omega)
            · obtain rfl : j = k + 1 := by omega
              rw [HNX.out, HM1.out]
              omega
          go_wp2_with fail
          go_roundw
          case rel => exact ⟨k + 1, m1, c3, A3, R1, by omega, by go_num, rfl, by omega, HM1, HNX, HBD', HSM', HR3, HB3⟩
          case measure => simp [intOf]; omega
      · have CS := smallR_any A' c' r wr HRW.out l1 l2 false ⟨fun h => (by cases h), fun h => absurd h hsm⟩
        obtain ⟨rn, hrn⟩ : ∃ n, r.length = n := ⟨_, rfl⟩
        rw [hrn] at cc CS
        replace CS := Lib.hid CS
        clear hrn l1 l2 hsm
        go_wp2_with fail
        refine CS.out.mono ?_
        rintro e w2 ⟨rfl, hb2⟩
        have HB2 := Lib.hid (HB.out.trans (hb2.mono hbs))
        clear hb2
        go_wp2_with fail
        refine (alive_any _).mono ?_
        rintro e w4 ⟨rfl, hb4⟩
        have HB4 := Lib.hid (HB2.out.trans (hb4.mono HB2.out.size))
        clear hb4
        go_wp2
        go_ret
        exact ⟨rfl, HB4.out⟩
    · obtain rfl : nl = k := by omega
      have HTK : Hid (l.take nl = l) := List.take_of_length_le (by rw [HNL.out]; exact Nat.le_refl _)
      rw [HTK.out] at HCH HSM
      have HCN := pChain_any A At c ct l text wr (HR.out.below HB.out).lt (fun r hr => ⟨(HSM.out r hr).smR, by have := (HSM.out r hr).1; omega⟩) (by rw [HNL.out]; omega) (HT.out.below HB.out).lt (fun j hj => Nat.le_trans (HBD.out j (by rw [HNL.out] at hj; exact hj)) (by omega)) t1 HCH.out
      unfold RetI at HCN
      rw [HNL.out, HNT.out, HL1.out] at HCN
      replace HCN := Lib.hid HCN
      go_wp2_with fail
      refine HCN.out.mono ?_
      rintro e w2 ⟨A2, c2, rfl, _, _, hr2, hb2⟩
      have HB2 := Lib.hid (HB.out.trans (hb2.mono hbs))
      have HR2 := Lib.hid hr2
      have HR1' := Lib.hid (HR1.out.below hb2).lt
      clear hr2 hb2
      go_wp2_with fail
      refine (requal_v A2 A1 c2 c1 _ n1 n1 t1 t1 w2 HR2.out HR1'.out HL1.out HL1.out (by simp only [maxLen]; omega) (by simp only [maxLen]; omega) true (by simp)).mono ?_
      rintro e w4 ⟨rfl, hb4⟩
      have HB4 := Lib.hid (HB2.out.trans (hb4.mono HB2.out.size))
      clear hb4
      go_wp2_with fail
      refine (alive_any _).mono ?_
      rintro e w5 ⟨rfl, hb5⟩
      have HB5 := Lib.hid (HB4.out.trans (hb5.mono HB4.out.size))
      clear hb5
      go_wp2
      go_ret
      exact ⟨rfl, HB5.out⟩
theorem own : ownKnob Try.prog.godebug = none := by kernel_rfl
theorem laidOut : laidOutB Try.prog = true := by kernel_rfl
set_option maxRecDepth 100000 in
theorem lifted (os : Os) (started : os.Started) (H : Type) (enc : TypeId × Value → H) :
    ReturnsInHanded {} Try.checked os 6 .any (Rows.transduceChainsSpec.pre6 enc Try.prog Try.f6 Rows.transduceChainsRow.domain false) (Rows.transduceChainsSpec.post enc Try.prog Try.f6 false true false false) := by
  refine returnsInHanded_of_change (C := Try.checked) own started (by kernel_rfl) Try.func6
    (ChangeSpec.witness6 (enc := enc) (C := Try.checked) false ⟨#[], #[.slice none 0 0, .slice none 0 0], []⟩ 8 (by kernel_rfl) (by kernel_rfl) (by kernel_rfl) (by kernel_rfl)) ?_
  intro W base args ds gs before hval0 hW hcnd _
  have hval : ∀ (j : Nat) t v, Try.f6.params[j]? = some t → args[j]? = some v → Value.okWide Try.prog W .any base t v := hval0
  have hW' := hW
  obtain ⟨p, q, hA0, hV, rfl, hfz, hnd⟩ := hW
  have hA : DataW.TrodAll enc Try.prog W 0 (fun _ => true) true Try.f6.params.toList args.toList ds p := hA0
  rw [Try.params6] at hA hval
  obtain ⟨v0, v1, d0, d1, p0, p1, rfl, rfl, rfl, h0, h1⟩ := trodAll_two hA
  obtain ⟨rfl, rfl⟩ := trodVars_none hV
  obtain ⟨ad0, le0, ca0, rfl⟩ := okWide_slice Try.underlying39 (hval 0 39 v0 rfl rfl)
  obtain ⟨fu0, hf0⟩ := h0
  obtain ⟨A0, c0, xs0, hv0, hc0, hm0, hR0⟩ := open_rules2 (v := .slice ad0 le0 ca0) hf0
  injection hv0 with ea0 eb0 ec0
  subst ea0 eb0 ec0
  obtain ⟨ad1, le1, ca1, rfl⟩ := okWide_slice Try.underlying23 (hval 1 23 v1 rfl rfl)
  obtain ⟨fu1, hf1⟩ := h1
  obtain ⟨A1, c1, xs1, hv1, hc1, hm1, hR1, -⟩ := open_row (v := .slice ad1 le1 ca1) Try.underlying23 Try.underlying3 (by kernel_rfl) hf1
  injection hv1 with ea1 eb1 ec1
  subst ea1 eb1 ec1
  refine (walk W ad0 ca0 xs0 hc0 hm0 hR0 ad1 ca1 xs1 hc1 hm1 hR1).mono fun e W' ⟨he, hb⟩ => ⟨_, he, ?_⟩
  exact law_post laidOut (by rw [Try.params6]; exact of_decide_eq_true (by kernel_rfl)) rfl rfl Try.underlying4 hW' rfl hb
theorem holds : Rows.TransduceChainsSaid :=
  OpenClaim.holds_of_wide 6 Try.f6 rfl rfl rfl rfl rfl rfl rfl ⟨rfl, rfl, rfl, rfl, rfl⟩ rfl rfl rfl rfl rfl (by kernel_rfl) Try.func6 (by kernel_rfl)
    (of_decide_eq_true (by kernel_rfl)) (by unfold Func.isWrapper; first | (rw [if_pos (by decide +kernel)]; kernel_rfl) | (rw [if_neg (by decide +kernel)]; exact ⟨rfl, rfl⟩))
    (fun os started H enc _ => lifted os started H enc)
end Go.Proofs.Ytledbiabdiijhaa.LChains
namespace Go.Proofs.Ytledbiabdiijhaa
theorem transduceChains_holds : Rows.TransduceChainsSaid := LChains.holds
end Go.Proofs.Ytledbiabdiijhaa
