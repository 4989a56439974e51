/-
  ref51.inside.
  ref51.applies, ref51.step.
-/
import Derived.Test.YtledbiabdiijhaaTt0
import Derived.Test.YtledbiabdiijhaaCs3
import Derived.Test.YtledbiabdiijhaaTt6
namespace Go.Proofs.Ytledbiabdiijhaa
open Go.RowKit Go.UtYtledbiabdiijhaa
set_option maxRecDepth 100000 in
set_option maxHeartbeats 1000000 in
theorem inside_any (As At : Option Addr) (cs ct : Nat) (sets : List (List Rg)) (text : List Int) (x : Int) (w : World) (hR : SetsAt w w.heap.size As sets) (hs : sets.length ≤ 1000000) (hT : Row w w.heap.size At (ints text)) (hl : text.length ≤ 1000000000) (hx1 : -1000000000 ≤ x) (hx2 : x ≤ 2000000000) (v : Bool) (hv : v = true ↔ 0 ≤ x ∧ hits sets text x.toNat) :
    Calls Try.prog 44 #[.slice As sets.length cs, .slice At text.length ct, .int .i64 x] w fun e w' => e = .returned (.bool v) ∧ Below w.heap.size w w' := by
  have HR := Lib.hid hR
  have HT := Lib.hid hT
  have HV := Lib.hid hv
  obtain ⟨ns, hns⟩ : ∃ n, sets.length = n := ⟨_, rfl⟩
  obtain ⟨nt, hnt⟩ : ∃ n, text.length = n := ⟨_, rfl⟩
  rw [hns] at hs
  rw [hnt] at hl
  rw [hns, hnt]
  have HNS := Lib.hid hns
  have HNT := Lib.hid hnt
  clear hR hT hv hns hnt
  by_cases h0 : x < 0
  · have HF : Hid (v = false) := by
      show _ = _
      cases v with
      | false => rfl
      | true =>
        have := (HV.out.1 rfl).1
        omega
    go_enter Try.func44, Try.ntmps44
    go_wp2
    go_ret
    exact ⟨ret_bool HF.out.symm, Below.refl _ _⟩
  · obtain ⟨p, rfl⟩ : ∃ p : Nat, x = (p : Int) := ⟨x.toNat, by omega⟩
    by_cases h1 : (p : Int) + (ns : Int) ≤ (nt : Int)
    · go_enter Try.func44, Try.ntmps44
      go_wp2
      go_loopw [7] (fun i wr => ∃ k : Nat, k ≤ ns ∧ i = .int .i64 (k : Int) ∧ Hid (hitsK sets text p k) ∧ Hid (Below w.heap.size w wr)) (fun i _ => ns - (intOf i).toNat)
      case atStart => exact ⟨0, by omega, rfl, hitsK_zero, Below.refl _ _⟩
      case round =>
        obtain ⟨k, hk, rfl, HK, HB⟩ := hrel
        have hbs := HB.out.size
        by_cases h2 : k < ns
        · obtain ⟨b, o, A', c', s, rfl, hb, hx, cc, l1, l2, HS⟩ := (HR.out.below HB.out).at_ (k := k) (by rw [HNS.out]; exact h2)
          obtain ⟨bt, ot, y, rfl, hbt, hxt, cct⟩ := (HT.out.below HB.out).at_int (k := p + k) (by rw [HNT.out]; omega)
          obtain ⟨n1, hn1⟩ : ∃ n, s.length = n := ⟨_, rfl⟩
          have HL := Lib.hid (Nat.le_trans l1 l2)
          have HH : Hid (∀ (u : World) (A' : Option Addr) (v' : Bool), Row u u.heap.size A' (prs s) → decide (hasP s y) = v' → Calls Try.prog 18 #[.agg #[.slice A' n1 c'], .int .i64 y] u fun e w' => e = .returned (.bool v') ∧ Below u.heap.size u w') := by
            intro u A' v' h1 h2
            rw [← hn1]
            exact has2_any A' c' s y u h1 HL.out v' h2
          rw [hn1] at cc l1
          clear hn1
          have k1 : IntKind.i64.wrap ((p : Int) + (k : Int)) = (p : Int) + (k : Int) := IntWalk.i64_in _ (by omega)
          have k2 : (0 : Int) ≤ (p : Int) + (k : Int) := by omega
          have k3 : (p : Int) + (k : Int) < (nt : Int) := by omega
          have k4 : ((p : Int) + (k : Int)).toNat = p + k := by omega
          go_wp2
          refine wp_region_tree (fun w' => w'.cell? ⟨b, o + k, none⟩ = some (.slice A' n1 c') ∧ w'.cell? ⟨bt, ot + (p + k), none⟩ = some (.int .i64 y)) (.float 0 (.float 1 (.float 2 (.float 3 (.float 4 (.float 5 (.float 6 (.float 7 (.float 8 (.float 9 (.one 10 (.float 11 .done)))))))))))) (by kernel_rfl) (by kernel_rfl) (fun _ _ d _ _ h => by cases d <;> exact h) ⟨cc, cct⟩ ?_
          repeat (first
            | (refine wpTr_fskip (by simp only [List.getElem?_toArray, List.getElem?_cons_zero, List.getElem?_cons_succ]; rfl) (by rfl) ?_
               simp only [Act.put, List.setIfInBounds_toArray, List.set_cons_zero, List.set_cons_succ])
            | (refine wpTr_float (v := ?_) (by simp only [List.getElem?_toArray, List.getElem?_cons_zero, List.getElem?_cons_succ]; rfl) (by rfl) (fun w' hS => ?_) ?_
               rotate_left
               ((obtain ⟨e1, e2⟩ := hS); go_simp; first | done | rfl)
               simp only [Act.put, List.setIfInBounds_toArray, List.set_cons_zero, List.set_cons_succ]))
          refine wpTr_one ?_
          refine stepTr_K (by simp only [List.getElem?_toArray, List.getElem?_cons_zero, List.getElem?_cons_succ]; rfl) (by rfl) (fun K hK => ?_)
          go_simp
          clear k1 k2 k3 k4
          have HSD : Hid (Row wr.drew wr.drew.heap.size A' (prs s)) := HS.out.more hbs
          by_cases hy : hasP s y
          · refine (HH.out _ _ true HSD.out (decide_eq_true hy)).mono ?_
            rintro e w3 ⟨rfl, hb3⟩
            have HB3 : Hid (Below w.heap.size w w3) := HB.out.drew.trans (hb3.mono hbs)
            have HN := Lib.hid (hitsK_succ HK.out hx.out hxt.out hy)
            refine hK.out _ _ ⟨(hb3.cell (p := ⟨b, o + k, none⟩) (by show b < wr.heap.size; omega)).trans cc, (hb3.cell (p := ⟨bt, ot + (p + k), none⟩) (by show bt < wr.heap.size; omega)).trans cct⟩ ?_
            clear hK K hb3
            try simp only [Act.put, List.setIfInBounds_toArray, List.set_cons_zero, List.set_cons_succ]
            repeat (first
              | (refine wpTr_fskip (by simp only [List.getElem?_toArray, List.getElem?_cons_zero, List.getElem?_cons_succ]; rfl) (by rfl) ?_
                 simp only [Act.put, List.setIfInBounds_toArray, List.set_cons_zero, List.set_cons_succ])
              | (refine wpTr_float (v := ?_) (by simp only [List.getElem?_toArray, List.getElem?_cons_zero, List.getElem?_cons_succ]; rfl) (by rfl) (fun w' hS => ?_) ?_
                 rotate_left
                 ((skip); go_simp; first | done | rfl)
                 simp only [Act.put, List.setIfInBounds_toArray, List.set_cons_zero, List.set_cons_succ]))
            refine wpTr_done ?_
            go_wp2
            go_roundw
            case rel => exact ⟨k + 1, by omega, by go_num, HN, HB3⟩
            case measure => simp [intOf]; omega
          · refine (HH.out _ _ false HSD.out (decide_eq_false hy)).mono ?_
            rintro e w3 ⟨rfl, hb3⟩
            have HB3 : Hid (Below w.heap.size w w3) := HB.out.drew.trans (hb3.mono hbs)
            have HF : Hid (v = false) := by
              show _ = _
              cases v with
              | false => rfl
              | true => exact absurd ((HV.out.1 rfl).2.2 k s y hx.out hxt.out) hy
            refine hK.out _ _ ⟨(hb3.cell (p := ⟨b, o + k, none⟩) (by show b < wr.heap.size; omega)).trans cc, (hb3.cell (p := ⟨bt, ot + (p + k), none⟩) (by show bt < wr.heap.size; omega)).trans cct⟩ ?_
            clear hK K hb3
            try simp only [Act.put, List.setIfInBounds_toArray, List.set_cons_zero, List.set_cons_succ]
            repeat (first
              | (refine wpTr_fskip (by simp only [List.getElem?_toArray, List.getElem?_cons_zero, List.getElem?_cons_succ]; rfl) (by rfl) ?_
                 simp only [Act.put, List.setIfInBounds_toArray, List.set_cons_zero, List.set_cons_succ])
              | (refine wpTr_float (v := ?_) (by simp only [List.getElem?_toArray, List.getElem?_cons_zero, List.getElem?_cons_succ]; rfl) (by rfl) (fun w' hS => ?_) ?_
                 rotate_left
                 ((skip); go_simp; first | done | rfl)
                 simp only [Act.put, List.setIfInBounds_toArray, List.set_cons_zero, List.set_cons_succ]))
            refine wpTr_done ?_
            go_wp2
            go_ret
            exact ⟨ret_bool HF.out.symm, HB3.out⟩
        · obtain rfl : ns = k := by omega
          have HF : Hid (v = true) := HV.out.2 ⟨by omega, hitsK_all (by rw [HNS.out]; exact HK.out) (by rw [HNS.out, HNT.out]; simp; omega)⟩
          go_wp2
          go_ret
          exact ⟨ret_bool HF.out.symm, HB.out⟩
    · have HF : Hid (v = false) := by
        show _ = _
        cases v with
        | false => rfl
        | true =>
          have := (HV.out.1 rfl).2.1
          rw [HNS.out, HNT.out] at this
          simp at this
          omega
      go_enter Try.func44, Try.ntmps44
      go_wp2
      go_ret
      exact ⟨ret_bool HF.out.symm, Below.refl _ _⟩
end Go.Proofs.Ytledbiabdiijhaa
namespace Go.Proofs.Ytledbiabdiijhaa
open Go.RowKit Go.UtYtledbiabdiijhaa
/-- a rule that is not too large -/
def midR (r : TR) : Prop := r.bef.length ≤ 1000000 ∧ r.mat.length ≤ 1000000 ∧ r.aft.length ≤ 1000000
set_option maxRecDepth 100000 in
set_option maxHeartbeats 2000000 in
theorem applies_any (r : TR) (vs : List Value) (At : Option Addr) (ct : Nat) (text : List Int) (p : Nat) (w : World) (hR : RuleAt w w.heap.size vs r) (hm : midR r) (hT : Row w w.heap.size At (ints text)) (hp : p ≤ text.length) (hl : text.length ≤ 100000000) (v : Bool) (hv : v = true ↔ appl r text p) :
    Calls Try.prog 39 #[.agg vs.toArray, .slice At text.length ct, .int .i64 (p : Int)] w fun e w' => e = .returned (.bool v) ∧ Below w.heap.size w w' := by
  obtain ⟨Ab, cb, Am, cm, Aa, ca, Ar, cr, rfl, ⟨rb, rm, ra, rr⟩, ⟨b1, b2⟩, ⟨m1, m2⟩, ⟨a1, a2⟩, ⟨r1, r2⟩⟩ := hR
  obtain ⟨q1, q2, q3⟩ := hm
  have HT := Lib.hid hT
  have CB := fun (u : World) (hb : Below w.heap.size w u) (x : Int) (hx1 : -1000000000 ≤ x) (hx2 : x ≤ 2000000000) (v : Bool) (hv : v = true ↔ 0 ≤ x ∧ hits r.bef text x.toNat) => inside_any Ab At cb ct r.bef text x u ((rb.below hb).more hb.size) q1 ((HT.out.below hb).more hb.size) (by omega) hx1 hx2 v hv
  have CM := fun (u : World) (hb : Below w.heap.size w u) (x : Int) (hx1 : -1000000000 ≤ x) (hx2 : x ≤ 2000000000) (v : Bool) (hv : v = true ↔ 0 ≤ x ∧ hits r.mat text x.toNat) => inside_any Am At cm ct r.mat text x u ((rm.below hb).more hb.size) q2 ((HT.out.below hb).more hb.size) (by omega) hx1 hx2 v hv
  have CA := fun (u : World) (hb : Below w.heap.size w u) (x : Int) (hx1 : -1000000000 ≤ x) (hx2 : x ≤ 2000000000) (v : Bool) (hv : v = true ↔ 0 ≤ x ∧ hits r.aft text x.toNat) => inside_any Aa At ca ct r.aft text x u ((ra.below hb).more hb.size) q3 ((HT.out.below hb).more hb.size) (by omega) hx1 hx2 v hv
  have HV : Hid (v = true ↔ hits r.mat text p ∧ hits r.aft text (p + r.mat.length) ∧ prec r text p) := hv.trans appl_iff
  have HPR : Hid (prec r text p ↔ 0 ≤ (p : Int) - (r.bef.length : Int) ∧ hits r.bef text ((p : Int) - (r.bef.length : Int)).toNat) := by
    unfold prec
    constructor
    · rintro ⟨h1, h2⟩
      refine ⟨by omega, ?_⟩
      rw [show ((p : Int) - (r.bef.length : Int)).toNat = p - r.bef.length by omega]
      exact h2
    · rintro ⟨h1, h2⟩
      refine ⟨by omega, ?_⟩
      rw [show ((p : Int) - (r.bef.length : Int)).toNat = p - r.bef.length by omega] at h2
      exact h2
  clear rb rm ra rr hT hv
  obtain ⟨w1, h1, HB1, HX1⟩ : ∃ w1, w1 = w.alloc (.cells #[.slice Ab r.bef.length cb, .slice Am r.mat.length cm, .slice Aa r.aft.length ca, .slice Ar r.res.length cr] 34) ∧ Hid (Below w.heap.size w w1) ∧ Hid (Blk w1 w.heap.size 34 #[.slice Ab r.bef.length cb, .slice Am r.mat.length cm, .slice Aa r.aft.length ca, .slice Ar r.res.length cr]) := ⟨_, rfl, (Below.refl _ _).alloc (Nat.le_refl _) _, Blk.new _ _ _⟩
  unfold maxLen at b2 m2 a2 r2
  obtain ⟨nb, hnb⟩ : ∃ n, r.bef.length = n := ⟨_, rfl⟩
  obtain ⟨nm, hnm⟩ : ∃ n, r.mat.length = n := ⟨_, rfl⟩
  obtain ⟨na, hna⟩ : ∃ n, r.aft.length = n := ⟨_, rfl⟩
  obtain ⟨nr, hnr⟩ : ∃ n, r.res.length = n := ⟨_, rfl⟩
  obtain ⟨nt, hnt⟩ : ∃ n, text.length = n := ⟨_, rfl⟩
  rw [hnb] at b1 q1 CB HPR
  rw [hnm] at m1 q2 CM HV
  rw [hna] at a1 q3 CA
  rw [hnr] at r1
  rw [hnt] at hp hl CB CM CA
  have CB := Lib.hid CB
  have CM := Lib.hid CM
  have CA := Lib.hid CA
  rw [hnb, hnm, hna, hnr] at h1 HX1
  rw [hnb, hnm, hna, hnr, hnt]
  clear hnb hnm hna hnr hnt
  have e0 := HX1.out.cell 1
  have hlt1 := HX1.out.lt
  simp at e0
  by_cases om : hits r.mat text p
  case neg =>
    have HF : Hid (v = false) := by
      show _ = _
      cases v with
      | false => rfl
      | true => exact absurd (HV.out.1 rfl).1 om
    have C1 := Lib.hid (CM.out w1 HB1.out (p : Int) (by omega) (by omega) false ⟨fun h => (by cases h), fun h => absurd h.2 om⟩)
    go_enter Try.func39, Try.ntmps39
    go_wp2_with (first | (go_at_call 44; rw [← h1]; refine C1.out.mono ?_; rintro e w2 ⟨rfl, hb2⟩; have HB2 := Lib.hid (HB1.out.trans (hb2.mono HB1.out.size)); clear hb2))
    go_ret
    exact ⟨ret_bool HF.out.symm, HB2.out⟩
  case pos =>
    have C1 := Lib.hid (CM.out w1 HB1.out (p : Int) (by omega) (by omega) true ⟨fun _ => ⟨by omega, om⟩, fun _ => rfl⟩)
    have k1 : IntKind.i64.wrap ((p : Int) + (nm : Int)) = (p : Int) + (nm : Int) := IntWalk.i64_in _ (by omega)
    have k2 : ((p : Int) + (nm : Int)).toNat = p + nm := by omega
    by_cases oa : hits r.aft text (p + nm)
    case neg =>
      have HF : Hid (v = false) := by
        show _ = _
        cases v with
        | false => rfl
        | true => exact absurd (HV.out.1 rfl).2.1 oa
      have C2 : Hid (∀ u, Below w.heap.size w u → Calls Try.prog 44 #[.slice Aa na ca, .slice At nt ct, .int .i64 ((p : Int) + (nm : Int))] u fun e w' => e = .returned (.bool false) ∧ Below u.heap.size u w') := fun u hu => CA.out u hu _ (by omega) (by omega) false ⟨fun h => (by cases h), fun h => absurd h.2 (by rw [k2]; exact oa)⟩
      go_enter Try.func39, Try.ntmps39
      go_wp2_with (first
        | (go_at_call 44; rw [← h1]; refine C1.out.mono ?_; rintro e w2 ⟨rfl, hb2⟩; have HB2 := Lib.hid (HB1.out.trans (hb2.mono HB1.out.size)); have HX2 := Lib.hid (HX1.out.after hb2); have p1 := HX2.out.cell 1; have p2 := HX2.out.cell 2; have p3 := HX2.out.lt; simp at p1 p2; clear hb2 h1)
        | (go_at_call 44; refine (C2.out w2 HB2.out).mono ?_; rintro e w3 ⟨rfl, hb3⟩; have HB3 := Lib.hid (HB2.out.trans (hb3.mono HB2.out.size)); clear hb3))
      go_ret
      exact ⟨ret_bool HF.out.symm, HB3.out⟩
    case pos =>
      have C2 : Hid (∀ u, Below w.heap.size w u → Calls Try.prog 44 #[.slice Aa na ca, .slice At nt ct, .int .i64 ((p : Int) + (nm : Int))] u fun e w' => e = .returned (.bool true) ∧ Below u.heap.size u w') := fun u hu => CA.out u hu _ (by omega) (by omega) true ⟨fun _ => ⟨by omega, by rw [k2]; exact oa⟩, fun _ => rfl⟩
      have k3 : IntKind.i64.wrap ((p : Int) - (nb : Int)) = (p : Int) - (nb : Int) := IntWalk.i64_in _ (by omega)
      have C3 : Hid (∀ u, Below w.heap.size w u → Calls Try.prog 44 #[.slice Ab nb cb, .slice At nt ct, .int .i64 ((p : Int) - (nb : Int))] u fun e w' => e = .returned (.bool v) ∧ Below u.heap.size u w') := fun u hu => CB.out u hu _ (by omega) (by omega) v (by rw [HV.out, HPR.out]; exact ⟨fun h => h.2.2, fun h => ⟨om, oa, h⟩⟩)
      go_enter Try.func39, Try.ntmps39
      go_wp2_with (first
        | (go_at_call 44; rw [← h1]; refine C1.out.mono ?_; rintro e w2 ⟨rfl, hb2⟩; have HB2 := Lib.hid (HB1.out.trans (hb2.mono HB1.out.size)); have HX2 := Lib.hid (HX1.out.after hb2); have p1 := HX2.out.cell 1; have p2 := HX2.out.cell 2; have p3 := HX2.out.lt; simp at p1 p2; clear hb2 h1)
        | (go_at_call 44; refine (C3.out w3 HB3.out).mono ?_; rintro e w4 ⟨rfl, hb4⟩; have HB4 := Lib.hid (HB3.out.trans (hb4.mono HB3.out.size)); clear hb4)
        | (go_at_call 44; refine (C2.out w2 HB2.out).mono ?_; rintro e w3 ⟨rfl, hb3⟩; have HB3 := Lib.hid (HB2.out.trans (hb3.mono HB2.out.size)); have HX3 := Lib.hid (HX2.out.after hb3); have p4 := HX3.out.cell 0; have p5 := HX3.out.lt; simp at p4; clear hb3))
      go_ret
      exact ⟨rfl, HB4.out⟩
end Go.Proofs.Ytledbiabdiijhaa
