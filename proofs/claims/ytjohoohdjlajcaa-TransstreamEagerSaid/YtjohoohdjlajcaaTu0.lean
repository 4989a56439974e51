/-
  ref51.inside.
  ref51.applies, ref51.step.
  ref51.step, ref51.Data, ref51.Step.
-/
import Derived.Test.YtjohoohdjlajcaaTt0
import Derived.Test.YtjohoohdjlajcaaCs3
import Derived.Test.YtjohoohdjlajcaaTt6
namespace Go.Proofs.Ytjohoohdjlajcaa
open Go.RowKit Go.UtYtjohoohdjlajcaa
set_option maxRecDepth 100000 in
set_option maxHeartbeats 1000000 in
theorem inside_any (As At : Option Addr) (cs ct : Nat) (sets : List (List Rg)) (text : List Int) (x : Int) (w : World) (hR : SetsAt w w.heap.size As sets) (hs : sets.length ≤ 1000000) (hT : Row w w.heap.size At (ints text)) (hl : text.length ≤ 1000000000) (hx1 : -1000000000 ≤ x) (hx2 : x ≤ 2000000000) (v : Bool) (hv : v = true ↔ 0 ≤ x ∧ hits sets text x.toNat) :
    Calls Try.prog 54 #[.slice As sets.length cs, .slice At text.length ct, .int .i64 x] w fun e w' => e = .returned (.bool v) ∧ Below w.heap.size w w' := by
  have HR := Lib.hid hR
  have HT := Lib.hid hT
  have HV := Lib.hid hv
  obtain ⟨ns, hns⟩ : ∃ n, sets.length = n := ⟨_, rfl⟩
  obtain ⟨nt, hnt⟩ : ∃ n, text.length = n := ⟨_, rfl⟩
  rw [hns] at hs
  rw [hnt] at hl
  rw [hns, hnt]
  have HNS := Lib.hid hns
  have HNT := Lib.hid hnt
  clear hR hT hv hns hnt
  by_cases h0 : x < 0
  · have HF : Hid (v = false) := by
      show _ = _
      cases v with
      | false => rfl
      | true =>
        have := (HV.out.1 rfl).1
        omega
    go_enter Try.func54, Try.ntmps54
    go_wp2
    go_ret
    exact ⟨ret_bool HF.out.symm, Below.refl _ _⟩
  · obtain ⟨p, rfl⟩ : ∃ p : Nat, x = (p : Int) := ⟨x.toNat, by omega⟩
    by_cases h1 : (p : Int) + (ns : Int) ≤ (nt : Int)
    · go_enter Try.func54, Try.ntmps54
      go_wp2
      go_loopw [7] (fun i wr => ∃ k : Nat, k ≤ ns ∧ i = .int .i64 (k : Int) ∧ Hid (hitsK sets text p k) ∧ Hid (Below w.heap.size w wr)) (fun i _ => ns - (intOf i).toNat)
      case atStart => exact ⟨0, by omega, rfl, hitsK_zero, Below.refl _ _⟩
      case round =>
        obtain ⟨k, hk, rfl, HK, HB⟩ := hrel
        have hbs := HB.out.size
        by_cases h2 : k < ns
        · obtain ⟨b, o, A', c', s, rfl, hb, hx, cc, l1, l2, HS⟩ := (HR.out.below HB.out).at_ (k := k) (by rw [HNS.out]; exact h2)
          obtain ⟨bt, ot, y, rfl, hbt, hxt, cct⟩ := (HT.out.below HB.out).at_int (k := p + k) (by rw [HNT.out]; omega)
          obtain ⟨n1, hn1⟩ : ∃ n, s.length = n := ⟨_, rfl⟩
          have HL := Lib.hid (Nat.le_trans l1 l2)
          have HH : Hid (∀ (u : World) (A' : Option Addr) (v' : Bool), Row u u.heap.size A' (prs s) → decide (hasP s y) = v' → Calls Try.prog 18 #[.agg #[.slice A' n1 c'], .int .i64 y] u fun e w' => e = .returned (.bool v') ∧ Below u.heap.size u w') := by
            intro u A' v' h1 h2
            rw [← hn1]
            exact has2_any A' c' s y u h1 HL.out v' h2
          rw [hn1] at cc l1
          clear hn1
          have k1 : IntKind.i64.wrap ((p : Int) + (k : Int)) = (p : Int) + (k : Int) := IntWalk.i64_in _ (by omega)
          have k2 : (0 : Int) ≤ (p : Int) + (k : Int) := by omega
          have k3 : (p : Int) + (k : Int) < (nt : Int) := by omega
          have k4 : ((p : Int) + (k : Int)).toNat = p + k := by omega
          go_wp2
          refine wp_region_tree (fun w' => w'.cell? ⟨b, o + k, none⟩ = some (.slice A' n1 c') ∧ w'.cell? ⟨bt, ot + (p + k), none⟩ = some (.int .i64 y)) (.float 0 (.float 1 (.float 2 (.float 3 (.float 4 (.float 5 (.float 6 (.float 7 (.float 8 (.float 9 (.one 10 (.float 11 .done)))))))))))) (by kernel_rfl) (by kernel_rfl) (fun _ _ d _ _ h => by cases d <;> exact h) ⟨cc, cct⟩ ?_
          repeat (first
            | (refine wpTr_fskip (by simp only [List.getElem?_toArray, List.getElem?_cons_zero, List.getElem?_cons_succ]; rfl) (by rfl) ?_
               simp only [Act.put, List.setIfInBounds_toArray, List.set_cons_zero, List.set_cons_succ])
            | (refine wpTr_float (v := ?_) (by simp only [List.getElem?_toArray, List.getElem?_cons_zero, List.getElem?_cons_succ]; rfl) (by rfl) (fun w' hS => ?_) ?_
               rotate_left
               ((obtain ⟨e1, e2⟩ := hS); go_simp; first | done | rfl)
               simp only [Act.put, List.setIfInBounds_toArray, List.set_cons_zero, List.set_cons_succ]))
          refine wpTr_one ?_
          refine stepTr_K (by simp only [List.getElem?_toArray, List.getElem?_cons_zero, List.getElem?_cons_succ]; rfl) (by rfl) (fun K hK => ?_)
          go_simp
          clear k1 k2 k3 k4
          have HSD : Hid (Row wr.drew wr.drew.heap.size A' (prs s)) := HS.out.more hbs
          by_cases hy : hasP s y
          · refine (HH.out _ _ true HSD.out (decide_eq_true hy)).mono ?_
            rintro e w3 ⟨rfl, hb3⟩
            have HB3 : Hid (Below w.heap.size w w3) := HB.out.drew.trans (hb3.mono hbs)
            have HN := Lib.hid (hitsK_succ HK.out hx.out hxt.out hy)
            refine hK.out _ _ ⟨(hb3.cell (p := ⟨b, o + k, none⟩) (by show b < wr.heap.size; omega)).trans cc, (hb3.cell (p := ⟨bt, ot + (p + k), none⟩) (by show bt < wr.heap.size; omega)).trans cct⟩ ?_
            clear hK K hb3
            try simp only [Act.put, List.setIfInBounds_toArray, List.set_cons_zero, List.set_cons_succ]
            repeat (first
              | (refine wpTr_fskip (by simp only [List.getElem?_toArray, List.getElem?_cons_zero, List.getElem?_cons_succ]; rfl) (by rfl) ?_
                 simp only [Act.put, List.setIfInBounds_toArray, List.set_cons_zero, List.set_cons_succ])
              | (refine wpTr_float (v := ?_) (by simp only [List.getElem?_toArray, List.getElem?_cons_zero, List.getElem?_cons_succ]; rfl) (by rfl) (fun w' hS => ?_) ?_
                 rotate_left
                 ((skip); go_simp; first | done | rfl)
                 simp only [Act.put, List.setIfInBounds_toArray, List.set_cons_zero, List.set_cons_succ]))
            refine wpTr_done ?_
            go_wp2
            go_roundw
            case rel => exact ⟨k + 1, by omega, by go_num, HN, HB3⟩
            case measure => simp [intOf]; omega
          · refine (HH.out _ _ false HSD.out (decide_eq_false hy)).mono ?_
            rintro e w3 ⟨rfl, hb3⟩
            have HB3 : Hid (Below w.heap.size w w3) := HB.out.drew.trans (hb3.mono hbs)
            have HF : Hid (v = false) := by
              show _ = _
              cases v with
              | false => rfl
              | true => exact absurd ((HV.out.1 rfl).2.2 k s y hx.out hxt.out) hy
            refine hK.out _ _ ⟨(hb3.cell (p := ⟨b, o + k, none⟩) (by show b < wr.heap.size; omega)).trans cc, (hb3.cell (p := ⟨bt, ot + (p + k), none⟩) (by show bt < wr.heap.size; omega)).trans cct⟩ ?_
            clear hK K hb3
            try simp only [Act.put, List.setIfInBounds_toArray, List.set_cons_zero, List.set_cons_succ]
            repeat (first
              | (refine wpTr_fskip (by simp only [List.getElem?_toArray, List.getElem?_cons_zero, List.getElem?_cons_succ]; rfl) (by rfl) ?_
                 simp only [Act.put, List.setIfInBounds_toArray, List.set_cons_zero, List.set_cons_succ])
              | (refine wpTr_float (v := ?_) (by simp only [List.getElem?_toArray, List.getElem?_cons_zero, List.getElem?_cons_succ]; rfl) (by rfl) (fun w' hS => ?_) ?_
                 rotate_left
                 ((skip); go_simp; first | done | rfl)
                 simp only [Act.put, List.setIfInBounds_toArray, List.set_cons_zero, List.set_cons_succ]))
            refine wpTr_done ?_
            go_wp2
            go_ret
            exact ⟨ret_bool HF.out.symm, HB3.out⟩
        · obtain rfl : ns = k := by omega
          have HF : Hid (v = true) := HV.out.2 ⟨by omega, hitsK_all (by rw [HNS.out]; exact HK.out) (by rw [HNS.out, HNT.out]; simp; omega)⟩
          go_wp2
          go_ret
          exact ⟨ret_bool HF.out.symm, HB.out⟩
    · have HF : Hid (v = false) := by
        show _ = _
        cases v with
        | false => rfl
        | true =>
          have := (HV.out.1 rfl).2.1
          rw [HNS.out, HNT.out] at this
          simp at this
          omega
      go_enter Try.func54, Try.ntmps54
      go_wp2
      go_ret
      exact ⟨ret_bool HF.out.symm, Below.refl _ _⟩
end Go.Proofs.Ytjohoohdjlajcaa
namespace Go.Proofs.Ytjohoohdjlajcaa
open Go.RowKit Go.UtYtjohoohdjlajcaa
/-- a rule that is not too large -/
def midR (r : TR) : Prop := r.bef.length ≤ 1000000 ∧ r.mat.length ≤ 1000000 ∧ r.aft.length ≤ 1000000
set_option maxRecDepth 100000 in
set_option maxHeartbeats 2000000 in
theorem applies_any (r : TR) (vs : List Value) (At : Option Addr) (ct : Nat) (text : List Int) (p : Nat) (w : World) (hR : RuleAt w w.heap.size vs r) (hm : midR r) (hT : Row w w.heap.size At (ints text)) (hp : p ≤ text.length) (hl : text.length ≤ 100000000) (v : Bool) (hv : v = true ↔ appl r text p) :
    Calls Try.prog 47 #[.agg vs.toArray, .slice At text.length ct, .int .i64 (p : Int)] w fun e w' => e = .returned (.bool v) ∧ Below w.heap.size w w' := by
  obtain ⟨Ab, cb, Am, cm, Aa, ca, Ar, cr, rfl, ⟨rb, rm, ra, rr⟩, ⟨b1, b2⟩, ⟨m1, m2⟩, ⟨a1, a2⟩, ⟨r1, r2⟩⟩ := hR
  obtain ⟨q1, q2, q3⟩ := hm
  have HT := Lib.hid hT
  have CB := fun (u : World) (hb : Below w.heap.size w u) (x : Int) (hx1 : -1000000000 ≤ x) (hx2 : x ≤ 2000000000) (v : Bool) (hv : v = true ↔ 0 ≤ x ∧ hits r.bef text x.toNat) => inside_any Ab At cb ct r.bef text x u ((rb.below hb).more hb.size) q1 ((HT.out.below hb).more hb.size) (by omega) hx1 hx2 v hv
  have CM := fun (u : World) (hb : Below w.heap.size w u) (x : Int) (hx1 : -1000000000 ≤ x) (hx2 : x ≤ 2000000000) (v : Bool) (hv : v = true ↔ 0 ≤ x ∧ hits r.mat text x.toNat) => inside_any Am At cm ct r.mat text x u ((rm.below hb).more hb.size) q2 ((HT.out.below hb).more hb.size) (by omega) hx1 hx2 v hv
  have CA := fun (u : World) (hb : Below w.heap.size w u) (x : Int) (hx1 : -1000000000 ≤ x) (hx2 : x ≤ 2000000000) (v : Bool) (hv : v = true ↔ 0 ≤ x ∧ hits r.aft text x.toNat) => inside_any Aa At ca ct r.aft text x u ((ra.below hb).more hb.size) q3 ((HT.out.below hb).more hb.size) (by omega) hx1 hx2 v hv
  have HV : Hid (v = true ↔ hits r.mat text p ∧ hits r.aft text (p + r.mat.length) ∧ prec r text p) := hv.trans appl_iff
  have HPR : Hid (prec r text p ↔ 0 ≤ (p : Int) - (r.bef.length : Int) ∧ hits r.bef text ((p : Int) - (r.bef.length : Int)).toNat) := by
    unfold prec
    constructor
    · rintro ⟨h1, h2⟩
      refine ⟨by omega, ?_⟩
      rw [show ((p : Int) - (r.bef.length : Int)).toNat = p - r.bef.length by omega]
      exact h2
    · rintro ⟨h1, h2⟩
      refine ⟨by omega, ?_⟩
      rw [show ((p : Int) - (r.bef.length : Int)).toNat = p - r.bef.length by omega] at h2
      exact h2
  clear rb rm ra rr hT hv
  obtain ⟨w1, h1, HB1, HX1⟩ : ∃ w1, w1 = w.alloc (.cells #[.slice Ab r.bef.length cb, .slice Am r.mat.length cm, .slice Aa r.aft.length ca, .slice Ar r.res.length cr] 41) ∧ Hid (Below w.heap.size w w1) ∧ Hid (Blk w1 w.heap.size 41 #[.slice Ab r.bef.length cb, .slice Am r.mat.length cm, .slice Aa r.aft.length ca, .slice Ar r.res.length cr]) := ⟨_, rfl, (Below.refl _ _).alloc (Nat.le_refl _) _, Blk.new _ _ _⟩
  unfold maxLen at b2 m2 a2 r2
  obtain ⟨nb, hnb⟩ : ∃ n, r.bef.length = n := ⟨_, rfl⟩
  obtain ⟨nm, hnm⟩ : ∃ n, r.mat.length = n := ⟨_, rfl⟩
  obtain ⟨na, hna⟩ : ∃ n, r.aft.length = n := ⟨_, rfl⟩
  obtain ⟨nr, hnr⟩ : ∃ n, r.res.length = n := ⟨_, rfl⟩
  obtain ⟨nt, hnt⟩ : ∃ n, text.length = n := ⟨_, rfl⟩
  rw [hnb] at b1 q1 CB HPR
  rw [hnm] at m1 q2 CM HV
  rw [hna] at a1 q3 CA
  rw [hnr] at r1
  rw [hnt] at hp hl CB CM CA
  have CB := Lib.hid CB
  have CM := Lib.hid CM
  have CA := Lib.hid CA
  rw [hnb, hnm, hna, hnr] at h1 HX1
  rw [hnb, hnm, hna, hnr, hnt]
  clear hnb hnm hna hnr hnt
  have e0 := HX1.out.cell 1
  have hlt1 := HX1.out.lt
  simp at e0
  by_cases om : hits r.mat text p
  case neg =>
    have HF : Hid (v = false) := by
      show _ = _
      cases v with
      | false => rfl
      | true => exact absurd (HV.out.1 rfl).1 om
    have C1 := Lib.hid (CM.out w1 HB1.out (p : Int) (by omega) (by omega) false ⟨fun h => (by cases h), fun h => absurd h.2 om⟩)
    go_enter Try.func47, Try.ntmps47
    go_wp2_with (first | (go_at_call 54; rw [← h1]; refine C1.out.mono ?_; rintro e w2 ⟨rfl, hb2⟩; have HB2 := Lib.hid (HB1.out.trans (hb2.mono HB1.out.size)); clear hb2))
    go_ret
    exact ⟨ret_bool HF.out.symm, HB2.out⟩
  case pos =>
    have C1 := Lib.hid (CM.out w1 HB1.out (p : Int) (by omega) (by omega) true ⟨fun _ => ⟨by omega, om⟩, fun _ => rfl⟩)
    have k1 : IntKind.i64.wrap ((p : Int) + (nm : Int)) = (p : Int) + (nm : Int) := IntWalk.i64_in _ (by omega)
    have k2 : ((p : Int) + (nm : Int)).toNat = p + nm := by omega
    by_cases oa : hits r.aft text (p + nm)
    case neg =>
      have HF : Hid (v = false) := by
        show _ = _
        cases v with
        | false => rfl
        | true => exact absurd (HV.out.1 rfl).2.1 oa
      have C2 : Hid (∀ u, Below w.heap.size w u → Calls Try.prog 54 #[.slice Aa na ca, .slice At nt ct, .int .i64 ((p : Int) + (nm : Int))] u fun e w' => e = .returned (.bool false) ∧ Below u.heap.size u w') := fun u hu => CA.out u hu _ (by omega) (by omega) false ⟨fun h => (by cases h), fun h => absurd h.2 (by rw [k2]; exact oa)⟩
      go_enter Try.func47, Try.ntmps47
      go_wp2_with (first
        | (go_at_call 54; rw [← h1]; refine C1.out.mono ?_; rintro e w2 ⟨rfl, hb2⟩; have HB2 := Lib.hid (HB1.out.trans (hb2.mono HB1.out.size)); have HX2 := Lib.hid (HX1.out.after hb2); have p1 := HX2.out.cell 1; have p2 := HX2.out.cell 2; have p3 := HX2.out.lt; simp at p1 p2; clear hb2 h1)
        | (go_at_call 54; refine (C2.out w2 HB2.out).mono ?_; rintro e w3 ⟨rfl, hb3⟩; have HB3 := Lib.hid (HB2.out.trans (hb3.mono HB2.out.size)); clear hb3))
      go_ret
      exact ⟨ret_bool HF.out.symm, HB3.out⟩
    case pos =>
      have C2 : Hid (∀ u, Below w.heap.size w u → Calls Try.prog 54 #[.slice Aa na ca, .slice At nt ct, .int .i64 ((p : Int) + (nm : Int))] u fun e w' => e = .returned (.bool true) ∧ Below u.heap.size u w') := fun u hu => CA.out u hu _ (by omega) (by omega) true ⟨fun _ => ⟨by omega, by rw [k2]; exact oa⟩, fun _ => rfl⟩
      have k3 : IntKind.i64.wrap ((p : Int) - (nb : Int)) = (p : Int) - (nb : Int) := IntWalk.i64_in _ (by omega)
      have C3 : Hid (∀ u, Below w.heap.size w u → Calls Try.prog 54 #[.slice Ab nb cb, .slice At nt ct, .int .i64 ((p : Int) - (nb : Int))] u fun e w' => e = .returned (.bool v) ∧ Below u.heap.size u w') := fun u hu => CB.out u hu _ (by omega) (by omega) v (by rw [HV.out, HPR.out]; exact ⟨fun h => h.2.2, fun h => ⟨om, oa, h⟩⟩)
      go_enter Try.func47, Try.ntmps47
      go_wp2_with (first
        | (go_at_call 54; rw [← h1]; refine C1.out.mono ?_; rintro e w2 ⟨rfl, hb2⟩; have HB2 := Lib.hid (HB1.out.trans (hb2.mono HB1.out.size)); have HX2 := Lib.hid (HX1.out.after hb2); have p1 := HX2.out.cell 1; have p2 := HX2.out.cell 2; have p3 := HX2.out.lt; simp at p1 p2; clear hb2 h1)
        | (go_at_call 54; refine (C3.out w3 HB3.out).mono ?_; rintro e w4 ⟨rfl, hb4⟩; have HB4 := Lib.hid (HB3.out.trans (hb4.mono HB3.out.size)); clear hb4)
        | (go_at_call 54; refine (C2.out w2 HB2.out).mono ?_; rintro e w3 ⟨rfl, hb3⟩; have HB3 := Lib.hid (HB2.out.trans (hb3.mono HB2.out.size)); have HX3 := Lib.hid (HX2.out.after hb3); have p4 := HX3.out.cell 0; have p5 := HX3.out.lt; simp at p4; clear hb3))
      go_ret
      exact ⟨rfl, HB4.out⟩
end Go.Proofs.Ytjohoohdjlajcaa
namespace Go.UtYtjohoohdjlajcaa
open Go.RowKit
/-- no rule among the first k applies -/
def noneK (rules : List TR) (text : List Int) (p k : Nat) : Prop := ∀ (j : Nat) (r : TR), j < k → rules[j]? = some r → ¬ appl r text p
theorem noneK_succ {rules : List TR} {text : List Int} {p k : Nat} {r : TR} (h : noneK rules text p k) (hk : rules[k]? = some r) (hn : ¬ appl r text p) : noneK rules text p (k + 1) := by
  intro j s hj hs
  rcases Nat.lt_or_ge j k with h1 | h1
  · exact h j s h1 hs
  · obtain rfl : j = k := by omega
    rw [hk] at hs
    cases hs
    exact hn
end Go.UtYtjohoohdjlajcaa
namespace Go.Proofs.Ytjohoohdjlajcaa
open Go.RowKit Go.UtYtjohoohdjlajcaa
set_option maxRecDepth 100000 in
set_option maxHeartbeats 2000000 in
theorem rstep_any (A At : Option Addr) (c ct : Nat) (D : List TR) (text : List Int) (x : Int) (w : World) (hR : RulesAt w w.heap.size A D) (hm : ∀ r ∈ D, midR r) (hd : D.length ≤ 1000000) (hT : Row w w.heap.size At (ints text)) (hl : text.length ≤ 100000000) :
    Calls Try.prog 35 #[.slice A D.length c, .slice At text.length ct, .int .i64 x] w (RetSt w D text x) := by
  have HR := Lib.hid hR
  have HT := Lib.hid hT
  have HM := Lib.hid hm
  obtain ⟨dn, hdn⟩ : ∃ n, D.length = n := ⟨_, rfl⟩
  obtain ⟨nt, hnt⟩ : ∃ n, text.length = n := ⟨_, rfl⟩
  rw [hdn] at hd
  rw [hnt] at hl
  rw [hdn, hnt]
  have HDN := Lib.hid hdn
  have HNT := Lib.hid hnt
  clear hR hT hm hdn hnt
  by_cases hx : 0 ≤ x ∧ x < (nt : Int)
  · obtain ⟨hx0, hx1⟩ := hx
    obtain ⟨p, rfl⟩ : ∃ p : Nat, x = (p : Int) := ⟨x.toNat, by omega⟩
    have t1 : decide (nt ≤ p) = false := decide_eq_false (by omega)
    go_enter Try.func35, Try.ntmps35
    go_wp2
    go_loopw [8] (fun i wr => ∃ k : Nat, k ≤ dn ∧ i = .int .i64 (k : Int) ∧ Hid (noneK D text p k) ∧ Hid (Below w.heap.size w wr)) (fun i _ => dn - (intOf i).toNat)
    case atStart => exact ⟨0, by omega, rfl, fun j r h => by omega, Below.refl _ _⟩
    case round =>
      obtain ⟨k, hk, rfl, HK, HB⟩ := hrel
      have hbs := HB.out.size
      by_cases hkn : k < dn
      · obtain ⟨b, o, v0, v1, v2, v3, r, rfl, hb, hx, HRA, c0, c1, c2, c3⟩ := (HR.out.below HB.out).at_ (k := k) (by rw [HDN.out]; exact hkn)
        have HAP : Hid (∀ v : Bool, (v = true ↔ appl r text p) → Calls Try.prog 47 #[.agg #[v0, v1, v2, v3], .slice At nt ct, .int .i64 (p : Int)] wr fun e w' => e = .returned (.bool v) ∧ Below wr.heap.size wr w') := by
          intro v hv
          have := applies_any r [v0, v1, v2, v3] At ct text p wr (HRA.out.more hbs) (HM.out r (List.mem_of_getElem? hx.out)) ((HT.out.below HB.out).more hbs) (by rw [HNT.out]; omega) (by rw [HNT.out]; exact hl) v hv
          rw [HNT.out] at this
          exact this
        by_cases ha : appl r text p
        · have HIS : Hid (IsStep D text p (k : Int) (r.mat.length : Int)) := .inr ⟨k, r, rfl, hx.out, rfl, ha, fun k' r' h1 h2 => HK.out k' r' h1 h2⟩
          obtain ⟨Ab, cb, Am, cm, Aa, ca, Ar, cr, hvs, hmore⟩ := HRA.out
          simp only [List.cons.injEq, and_true] at hvs
          obtain ⟨rfl, rfl, rfl, rfl⟩ := hvs
          have HA := Lib.hid (HAP.out true ⟨fun _ => ha, fun _ => rfl⟩)
          clear hmore HRA HAP
          go_wp2_with (first | (go_at_call 47; refine HA.out.mono ?_; rintro e w2 ⟨rfl, hb2⟩; have HB2 := Lib.hid (HB.out.trans (hb2.mono hbs)); have d1 := (hb2.cell (p := ⟨b, o + k * 4 + 1, none⟩) (by simp; omega)).trans c1; clear hb2))
          go_quiet (fail)
          go_wp2
          go_ret2
          exact ⟨k, r.mat.length, rfl, .inl ⟨by omega, by rw [HNT.out]; exact hx1, HIS.out⟩, below_drewN HB2.out _⟩
        · have HN := Lib.hid (noneK_succ HK.out hx.out ha)
          have HA := Lib.hid (HAP.out false ⟨fun h => (by cases h), fun h => absurd h ha⟩)
          clear HAP
          go_wp2_with (first | (go_at_call 47; refine HA.out.mono ?_; rintro e w2 ⟨rfl, hb2⟩; have HB2 := Lib.hid (HB.out.trans (hb2.mono hbs)); clear hb2))
          go_roundw
          case rel => exact ⟨k + 1, by omega, by go_num, HN, HB2⟩
          case measure => simp [intOf]; omega
      · obtain rfl : dn = k := by omega
        have HIS : Hid (IsStep D text p (-1) 1) := .inl ⟨rfl, rfl, fun j r hj => HK.out j r (by have := (List.getElem?_eq_some_iff.1 hj).1; rw [HDN.out] at this; exact this) hj⟩
        go_wp2
        go_ret2
        exact ⟨-1, 1, rfl, .inl ⟨by omega, by rw [HNT.out]; exact hx1, HIS.out⟩, HB.out⟩
  · have HN : Hid (StepIs D text x (-1) 0) := .inr ⟨by rw [HNT.out]; exact hx, rfl, rfl⟩
    by_cases h0 : x < 0
    · go_enter Try.func35, Try.ntmps35
      go_wp2
      go_ret2
      exact ⟨-1, 0, rfl, HN.out, Below.refl _ _⟩
    · have h1 : ¬ x < (nt : Int) := by omega
      clear hx
      go_enter Try.func35, Try.ntmps35
      go_wp2
      go_ret2
      exact ⟨-1, 0, rfl, HN.out, Below.refl _ _⟩
/-- the call returns the rules if they are valid, else none -/
def RetD (w : World) (rules : List TR) (e : Ending) (w' : World) : Prop :=
  ∃ (A' : Option Addr) (c' : Nat), e = .returned (.slice A' (dataL rules).length c') ∧ (dataL rules).length ≤ c' ∧ c' ≤ maxLen ∧ RulesAt w w.heap.size A' (dataL rules) ∧ Below w.heap.size w w'
set_option maxRecDepth 100000 in
set_option maxHeartbeats 2000000 in
theorem data_any (A : Option Addr) (c : Nat) (rules : List TR) (w : World) (hR : RulesAt w w.heap.size A rules) (hs : smR rules) (hl : rules.length ≤ c) (hc : c ≤ maxLen) :
    Calls Try.prog 34 #[.slice A rules.length c] w (RetD w rules) := by
  have HR := Lib.hid hR
  have HCK := rcheck_any A c rules w hR hs hl hc
  have HLC := Lib.hid (And.intro hl hc)
  obtain ⟨n, hn⟩ : ∃ n, rules.length = n := ⟨_, rfl⟩
  have HN := Lib.hid hn
  rw [hn] at HCK ⊢
  replace HCK := Lib.hid HCK
  clear hR hs hn hl hc
  by_cases h0 : chkL rules = 0
  · have HD : Hid (dataL rules = rules) := by
      show _ = _
      unfold dataL
      rw [if_pos h0]
    rw [h0] at HCK
    go_enter Try.func34, Try.ntmps34
    go_wp2_with (first | (go_at_call 38; refine HCK.out.mono ?_; rintro e w1 ⟨rfl, hb1⟩; have HB1 := Lib.hid hb1; clear hb1))
    go_ret
    unfold RetD
    rw [HD.out, HN.out]
    exact ⟨A, c, rfl, by rw [← HN.out]; exact HLC.out.1, HLC.out.2, HR.out, HB1.out⟩
  · have HD : Hid (dataL rules = []) := by
      show _ = _
      unfold dataL
      rw [if_neg h0]
    obtain ⟨x, hx⟩ : ∃ x, chkL rules = x := ⟨_, rfl⟩
    rw [hx] at HCK h0
    clear hx
    go_enter Try.func34, Try.ntmps34
    go_wp2_with (first | (go_at_call 38; refine HCK.out.mono ?_; rintro e w1 ⟨rfl, hb1⟩; have HB1 := Lib.hid hb1; clear hb1))
    go_ret
    unfold RetD
    rw [HD.out]
    exact ⟨none, 0, rfl, by simp, by simp [maxLen], RulesAt.nil, HB1.out⟩
theorem data_mid (rules : List TR) : ∀ r ∈ dataL rules, midR r := fun r hr => by
  obtain ⟨⟨h1, h2, h3, h4, h5⟩, _, _⟩ := chk1_ok (data_ok r hr)
  exact ⟨by omega, by omega, by omega⟩
theorem data_200 (rules : List TR) : (dataL rules).length ≤ 200 := by
  unfold dataL
  by_cases h : chkL rules = 0
  · rw [if_pos h]
    rcases Nat.lt_or_ge 200 rules.length with h2 | h2
    · unfold chkL at h
      rw [if_pos h2] at h
      cases h
    · exact h2
  · rw [if_neg h]
    simp
set_option maxRecDepth 100000 in
set_option maxHeartbeats 2000000 in
theorem rStep_any (A At : Option Addr) (c ct : Nat) (rules : List TR) (text : List Int) (x : Int) (w : World) (hR : RulesAt w w.heap.size A rules) (hs : smR rules) (hl : rules.length ≤ c) (hc : c ≤ maxLen) (hT : Row w w.heap.size At (ints text)) (htl : text.length ≤ 100000000) :
    Calls Try.prog 49 #[.slice A rules.length c, .slice At text.length ct, .int .i64 x] w (RetSt w (dataL rules) text x) := by
  have HD := Lib.hid (data_any A c rules w hR hs hl hc)
  have HT := Lib.hid hT
  have HTL := Lib.hid htl
  clear hR hs hl hc hT htl
  go_enter Try.func49, Try.ntmps49
  go_wp2_with (first
    | (go_at_call 35
       refine (rstep_any A' At c' ct (dataL rules) text x w1 ((hru.out.below hb1.out).more hb1.out.size) (data_mid rules) (by have := data_200 rules; omega) ((HT.out.below hb1.out).more hb1.out.size) HTL.out).mono ?_
       rintro e w2 ⟨i, m, rfl, h1, hb2⟩
       have HST := Lib.hid h1
       have HB2 : Hid (Below w.heap.size w w2) := hb1.out.trans (hb2.mono hb1.out.size)
       clear h1 hb2)
    | (go_at_call 34
       refine HD.out.mono ?_
       rintro e w1 ⟨A', c', rfl, _, _, hru, hb1⟩
       replace hru := Lib.hid hru
       replace hb1 := Lib.hid hb1))
  go_ret2
  exact ⟨i, m, rfl, HST.out, HB2.out⟩
end Go.Proofs.Ytjohoohdjlajcaa
