/-
  breakauto.firstCommon, decide, Actions; ref29.Decide, Actions.
-/
import Derived.Test.YtkpblieanejmeaaBw7
import Derived.Test.YtkpblieanejmeaaCmp
namespace Go.UtYtkpblieanejmeaa
open Go.RowKit
theorem asc_tail {n least x : Int} {l : List Int} (h : ascL n least (x :: l)) : ascL n (x + 1) l := h.2
theorem asc_ge {n least : Int} {l : List Int} (h : ascL n least l) : ∀ y ∈ l, least ≤ y := fun y hy => by
  obtain ⟨k, hk, e⟩ := List.getElem_of_mem hy
  have := asc_mem h k y (e ▸ List.getElem?_eq_getElem hk)
  omega
theorem comm_eq {x : Int} {a b : List Int} : comm (x :: a) (x :: b) = some x := by simp [comm]
theorem comm_nil (a : List Int) : comm a [] = none := by
  unfold comm
  rw [List.find?_eq_none]
  simp
theorem comm_lt {n m l1 l2 x y : Int} {a b : List Int} (_ha : ascL n l1 (x :: a)) (hb : ascL m l2 (y :: b)) (h : x < y) : comm (x :: a) (y :: b) = comm a (y :: b) := by
  have hx : x ∉ y :: b := fun hm => by
    rcases List.mem_cons.1 hm with e | e
    · omega
    · have := asc_ge hb.2 x e
      omega
  unfold comm
  rw [List.find?_cons, decide_eq_false hx]
theorem comm_gt {n m l1 l2 x y : Int} {a b : List Int} (ha : ascL n l1 (x :: a)) (_hb : ascL m l2 (y :: b)) (h : y < x) : comm (x :: a) (y :: b) = comm (x :: a) b := by
  have key : ∀ z ∈ x :: a, (z ∈ y :: b ↔ z ∈ b) := fun z hz => by
    have hz2 : y < z := by
      rcases List.mem_cons.1 hz with e | e
      · omega
      · have := asc_ge ha.2 z e
        omega
    constructor
    · intro hm
      rcases List.mem_cons.1 hm with e | e
      · omega
      · exact e
    · exact fun hm => List.mem_cons_of_mem _ hm
  have gen : ∀ c : List Int, (∀ z ∈ c, (z ∈ y :: b ↔ z ∈ b)) → comm c (y :: b) = comm c b := by
    intro c
    induction c with
    | nil => intro _; rfl
    | cons z c ih =>
      intro hc
      unfold comm at ih ⊢
      rw [List.find?_cons, List.find?_cons, ih (fun u hu => hc u (by simp [hu]))]
      rw [show decide (z ∈ y :: b) = decide (z ∈ b) from decide_eq_decide.2 (hc z (by simp))]
  exact gen _ key
def slLen (v : Value) : Nat := match v with | .slice _ n _ => n | _ => 0
end Go.UtYtkpblieanejmeaa
namespace Go.Proofs.Ytkpblieanejmeaa
open Go.RowKit Go.UtYtkpblieanejmeaa
attribute [local go_sem high] cut_l cut_lh cutA_zero
set_option maxRecDepth 100000 in
set_option maxHeartbeats 2000000 in
theorem firstCommon_any (A A' : Option Addr) (c c' : Nat) (a b : List Int) (na nb : Int) (w : World) (ha : Row w w.heap.size A (ints a)) (hb : Row w w.heap.size A' (ints b)) (hc : a.length ≤ c) (hc' : b.length ≤ c') (hm : c ≤ maxLen) (hm' : c' ≤ maxLen) (h1 : ascL na 0 a) (h2 : ascL nb 0 b) :
    Calls Try.prog 104 #[.slice A a.length c, .slice A' b.length c'] w fun e w' => e = .returned (.tuple #[.int .i64 ((comm a b).getD 0), .bool (comm a b).isSome]) ∧ Below w.heap.size w w' := by
  have HA := Lib.hid ha
  have HB := Lib.hid hb
  have H1 := Lib.hid h1
  have H2 := Lib.hid h2
  obtain ⟨n, hn⟩ : ∃ n, a.length = n := ⟨_, rfl⟩
  obtain ⟨m, hmm⟩ : ∃ n, b.length = n := ⟨_, rfl⟩
  have HN := Lib.hid hn
  have HM := Lib.hid hmm
  rw [hn] at hc
  rw [hmm] at hc'
  rw [hn, hmm]
  unfold maxLen at hm hm'
  obtain ⟨R, hR⟩ : ∃ R, comm a b = R := ⟨_, rfl⟩
  have HR := Lib.hid hR
  rw [hR]
  clear ha hb h1 h2 hn hmm hR
  go_enter Try.func104, Try.ntmps104
  go_wp2
  go_loopw [0, 1] (fun u v wr => ∃ (B1 B2 : Option Addr) (n1 n2 c1 c2 : Nat) (l1 l2 : Int) (la lb : List Int), u = .slice B1 n1 c1 ∧ v = .slice B2 n2 c2 ∧ n1 ≤ c1 ∧ n2 ≤ c2 ∧ c1 ≤ 2 ^ 63 - 1 ∧ c2 ≤ 2 ^ 63 - 1 ∧ Hid (la.length = n1 ∧ lb.length = n2) ∧ Hid (comm la lb = R) ∧ Hid (ascL na l1 la) ∧ Hid (ascL nb l2 lb) ∧ Hid (Row wr w.heap.size B1 (ints la)) ∧ Hid (Row wr w.heap.size B2 (ints lb)) ∧ Hid (Below w.heap.size w wr)) (fun u v _ => slLen u + slLen v)
  case atStart => exact ⟨A, A', n, m, c, c', 0, 0, a, b, rfl, rfl, hc, hc', hm, hm', ⟨HN.out, HM.out⟩, HR, H1, H2, HA, HB, Below.refl _ _⟩
  case round =>
    obtain ⟨B1, B2, n1, n2, c1, c2, l1, l2, la, lb, rfl, rfl, g1, g2, g3, g4, HL, HC, HA1, HA2, HR1, HR2, HBe⟩ := hrel
    have hbs := HBe.out.size
    by_cases e1 : 0 < n1
    case neg =>
      have d1 : decide (0 < n1) = false := decide_eq_false e1
      have HF : Hid (R = none) := by
        show _ = _
        obtain rfl : la = [] := List.eq_nil_of_length_eq_zero (by rw [HL.out.1]; omega)
        rw [← HC.out]
        rfl
      go_wp2
      go_ret2
      rw [HF.out]
      exact ⟨rfl, HBe.out⟩
    case pos =>
      by_cases e2 : 0 < n2
      case neg =>
        have d2 : decide (0 < n2) = false := decide_eq_false e2
        have HF : Hid (R = none) := by
          show _ = _
          obtain rfl : lb = [] := List.eq_nil_of_length_eq_zero (by rw [HL.out.2]; omega)
          rw [← HC.out, comm_nil]
        go_wp2
        go_ret2
        rw [HF.out]
        exact ⟨rfl, HBe.out⟩
      case pos =>
        obtain ⟨x, la', has⟩ : ∃ x la', la = x :: la' := by
          cases la with
          | nil => have := HL.out.1; simp at this; omega
          | cons x la' => exact ⟨x, la', rfl⟩
        obtain ⟨y, lb', hbs'⟩ : ∃ x la', lb = x :: la' := by
          cases lb with
          | nil => have := HL.out.2; simp at this; omega
          | cons x la' => exact ⟨x, la', rfl⟩
        subst has hbs'
        obtain ⟨b1, o1, x1, rfl, hb1, hx1, cc1⟩ := HR1.out.at_int (k := 0) (by simp)
        obtain ⟨b2, o2, x2, rfl, hb2, hx2, cc2⟩ := HR2.out.at_int (k := 0) (by simp)
        obtain rfl : x = x1 := by simpa using hx1.out
        obtain rfl : y = x2 := by simpa using hx2.out
        have i1 : (0 : Int) < (n1 : Int) := by omega
        have i2 : (0 : Int) < (n2 : Int) := by omega
        have j1 : (1 : Int) ≤ (n1 : Int) := by omega
        have j2 : (1 : Int) ≤ (n2 : Int) := by omega
        have hq1 : b1 < wr.heap.size := by omega
        have hq2 : b2 < wr.heap.size := by omega
        rw [Nat.add_zero] at cc1 cc2
        go_wp2
        refine wp_region_tree (fun w' => w'.cell? ⟨b1, o1, none⟩ = some (.int .i64 x) ∧ w'.cell? ⟨b2, o2, none⟩ = some (.int .i64 y)) (.float 0 (.float 1 (.float 2 (.float 3 (.float 4 (.float 5 (.one 6 .done))))))) (by kernel_rfl) (by kernel_rfl) (fun _ _ d _ _ h => by cases d <;> exact h) ⟨cc1, cc2⟩ ?_
        repeat (first
          | (refine wpTr_fskip (by simp only [List.getElem?_toArray, List.getElem?_cons_zero, List.getElem?_cons_succ]; rfl) (by rfl) ?_
             simp only [Act.put, List.setIfInBounds_toArray, List.set_cons_zero, List.set_cons_succ])
          | (refine wpTr_float (v := ?_) (by simp only [List.getElem?_toArray, List.getElem?_cons_zero, List.getElem?_cons_succ]; rfl) (by rfl) (fun w' hS => ?_) ?_
             rotate_left
             ((obtain ⟨e1', e2'⟩ := hS); go_simp; first | done | rfl)
             simp only [Act.put, List.setIfInBounds_toArray, List.set_cons_zero, List.set_cons_succ]))
        refine wpTr_one ?_
        refine stepTr_K (by simp only [List.getElem?_toArray, List.getElem?_cons_zero, List.getElem?_cons_succ]; rfl) (by rfl) (fun K hK => ?_)
        go_simp
        refine (cmp_any x y wr.drew _ rfl).mono ?_
        rintro e w2 ⟨rfl, hw2⟩
        subst w2
        refine hK.out _ _ ⟨cc1, cc2⟩ ?_
        clear hK K
        try simp only [Act.put, List.setIfInBounds_toArray, List.set_cons_zero, List.set_cons_succ]
        refine wpTr_done ?_
        have HBd : Hid (Below w.heap.size w wr.drew) := HBe.out.drew
        rcases Int.lt_trichotomy x y with hxy | hxy | hxy
        · have hc3 : cmp3 x y = -1 := by unfold cmp3; rw [if_pos hxy]
          rw [hc3]
          clear hc3
          have HC' : Hid (comm la' (y :: lb') = R) := (comm_lt HA1.out HA2.out hxy).symm.trans HC.out
          have HRT : Hid (Row wr w.heap.size (cutA (some ⟨b1, o1, none⟩) c1 1 1) (ints la')) := HR1.out.tail (l := 1) (c := c1) (by rw [HL.out.1]; exact g1)
          go_wp2
          go_roundw
          case rel => exact ⟨_, _, n1 - 1, n2, c1 - 1, c2, _, _, la', y :: lb', rfl, rfl, by omega, g2, by omega, g4, ⟨by have := HL.out.1; simp at this; omega, HL.out.2⟩, HC', HA1.out.2, HA2, HRT, HR2, HBd⟩
          case measure => simp [slLen]; omega
        · subst hxy
          have hc3 : cmp3 x x = 0 := by unfold cmp3; rw [if_neg (by omega), if_neg (by omega)]
          rw [hc3]
          clear hc3
          have HF : Hid (R = some x) := HC.out.symm.trans comm_eq
          have cc3 : wr.drew.cell? ⟨b1, o1, none⟩ = some (.int .i64 x) := cc1
          go_wp2
          go_ret2
          rw [HF.out]
          exact ⟨rfl, HBd.out⟩
        · have hc3 : cmp3 x y = 1 := by unfold cmp3; rw [if_neg (by omega), if_pos hxy]
          rw [hc3]
          clear hc3
          have HC' : Hid (comm (x :: la') lb' = R) := (comm_gt HA1.out HA2.out hxy).symm.trans HC.out
          have HRT : Hid (Row wr w.heap.size (cutA (some ⟨b2, o2, none⟩) c2 1 1) (ints lb')) := HR2.out.tail (l := 1) (c := c2) (by rw [HL.out.2]; exact g2)
          go_wp2
          go_roundw
          case rel => exact ⟨_, _, n1, n2 - 1, c1, c2 - 1, _, _, x :: la', lb', rfl, rfl, g1, by omega, g3, by omega, ⟨HL.out.1, by have := HL.out.2; simp at this; omega⟩, HC', HA1, HA2.out.2, HR1, HRT, HBd⟩
          case measure => simp [slLen]; omega
open Classical in
noncomputable def actL (t : BT) (l : List Int) : List Int := if fitsL t l ∧ validT t then actsL t l else []
theorem acts_len (t : BT) (l : List Int) : (actsL t l).length = l.length + 1 := by simp [actsL]
theorem acts_get {t : BT} {l : List Int} {i : Nat} (h : i ≤ l.length) : (actsL t l)[i]? = some (actS t (runA t.ln 0 (l.take i)) (runR t.rn (l.drop i))) := by
  unfold actsL
  rw [List.getElem?_map, List.getElem?_range (by omega)]
  rfl
theorem comm_mem {a b : List Int} {r : Int} (h : comm a b = some r) : r ∈ a ∧ r ∈ b := by
  unfold comm at h
  exact ⟨List.mem_of_find?_eq_some h, by simpa using List.find?_some h⟩
theorem actS_some {t : BT} {l r : Nat} {p q : List Int} {z : Int} (hp : t.lm[l]? = some p) (hq : t.rm[r]? = some q) (h : comm p q = some z) : actS t l r = t.act.getD z.toNat 0 := by
  simp [actS, List.getD_eq_getElem?_getD, hp, hq, h]
theorem actS_none {t : BT} {l r : Nat} {p q : List Int} (hp : t.lm[l]? = some p) (hq : t.rm[r]? = some q) (h : comm p q = none) : actS t l r = 2 := by
  simp [actS, List.getD_eq_getElem?_getD, hp, hq, h]
set_option maxRecDepth 100000 in
set_option maxHeartbeats 2000000 in
theorem decide_any (x : TA) (t : BT) (l r : Nat) (w : World) (h : TabAt w w.heap.size x t) (hv : validT t) (hl : l < t.ln.length) (hr : r < t.rn.length) :
    Calls Try.prog 99 #[x.val t, .int .i64 (l : Int), .int .i64 (r : Int)] w fun e w' => ∃ z : Int, e = .returned (.tuple #[.int .i64 (actS t l r), .int .i64 z]) ∧ Below w.heap.size w w' := by
  unfold TA.val
  have HT := Lib.hid h
  have HV := Lib.hid hv
  obtain ⟨w1, hw1, HB1, HK1⟩ := boxT w 31 x t
  obtain ⟨q0, q1, q2, q3, q4, q5, ql⟩ := tab6 HK1.out
  have hll : t.lm.length = t.ln.length := hv.2.2.2.1.2.1
  have hrl : t.rm.length = t.rn.length := hv.2.2.2.2.2.1
  obtain ⟨bl, ol, Al, cl, p, hAl, hbl, hxl, ccl, l1, l2, hrp⟩ := (h.2.2.1.2.1.below HB1.out).at_ (k := l) (by omega)
  obtain ⟨br, or, Ar, cr, q, hAr, hbr, hxr, ccr, r1, r2, hrq⟩ := (h.2.2.2.2.1.below HB1.out).at_ (k := r) (by omega)
  have HP := Lib.hid hrp
  have HQ := Lib.hid hrq
  have HAP := Lib.hid (hv.2.2.2.1.2.2.2 p (List.mem_of_getElem? hxl.out))
  have HAQ := Lib.hid (hv.2.2.2.2.2.2.2 q (List.mem_of_getElem? hxr.out))
  have HCP := Lib.hid (And.intro l1 l2)
  have HCQ := Lib.hid (And.intro r1 r2)
  rw [hAl] at q3
  rw [hAr] at q5
  obtain ⟨nl, hnl⟩ : ∃ n, t.lm.length = n := ⟨_, rfl⟩
  obtain ⟨nr, hnr⟩ : ∃ n, t.rm.length = n := ⟨_, rfl⟩
  have i1 : l < nl := by omega
  have i2 : r < nr := by omega
  rw [hnl] at q3
  rw [hnr] at q5
  obtain ⟨np, hnp⟩ : ∃ n, p.length = n := ⟨_, rfl⟩
  obtain ⟨nq, hnq⟩ : ∃ n, q.length = n := ⟨_, rfl⟩
  have CF := fun (u : World) (hu : Below w1.heap.size w1 u) => firstCommon_any Al Ar cl cr p q (t.act.length : Int) (t.act.length : Int) u ((HP.out.more HB1.out.size).below hu).lt ((HQ.out.more HB1.out.size).below hu).lt HCP.out.1 HCQ.out.1 HCP.out.2 HCQ.out.2 HAP.out HAQ.out
  rw [hnp, hnq] at CF
  rw [hnp] at ccl
  rw [hnq] at ccr
  replace CF := Lib.hid CF
  have hbs := HB1.out.size
  have hbl2 : bl < w1.heap.size := by omega
  have hbr2 : br < w1.heap.size := by omega
  have HX3 := Lib.hid hAl
  have HX5 := Lib.hid hAr
  have HNL := Lib.hid hnl
  have HNR := Lib.hid hnr
  clear h hv hl hr hll hrl hrp hrq l1 l2 r1 r2 hAl hAr hnl hnr hnp hnq
  go_enter Try.func99, Try.ntmps99
  go_upto_region 1 with fail
  rw [← hw1]
  clear hw1
  refine wp_region_tree (fun w' => (w'.cell? ⟨w.heap.size, 3, none⟩ = some (.slice (some ⟨bl, ol, none⟩) nl x.clm) ∧ w'.cell? ⟨w.heap.size, 5, none⟩ = some (.slice (some ⟨br, or, none⟩) nr x.crm) ∧ w.heap.size < w'.heap.size) ∧ w'.cell? ⟨bl, ol + l, none⟩ = some (.slice Al np cl) ∧ w'.cell? ⟨br, or + r, none⟩ = some (.slice Ar nq cr)) (.float 0 (.float 1 (.float 2 (.float 3 (.float 4 (.float 5 (.float 6 (.float 7 (.float 8 (.float 9 (.float 10 (.float 11 (.one 12 (.float 13 (.float 14 (.float 15 (.float 16 (.float 17 .done)))))))))))))))))) (by kernel_rfl) (by kernel_rfl) (fun _ _ d _ _ h => by cases d <;> exact h) ⟨⟨q3, q5, ql⟩, ccl, ccr⟩ ?_
  repeat (first
    | (refine wpTr_fskip (by simp only [List.getElem?_toArray, List.getElem?_cons_zero, List.getElem?_cons_succ]; rfl) (by rfl) ?_
       simp only [Act.put, List.setIfInBounds_toArray, List.set_cons_zero, List.set_cons_succ])
    | (refine wpTr_float (v := ?_) (by simp only [List.getElem?_toArray, List.getElem?_cons_zero, List.getElem?_cons_succ]; rfl) (by rfl) (fun w' hS => ?_) ?_
       rotate_left
       ((obtain ⟨⟨e3', e5', el'⟩, e1', e2'⟩ := hS); go_simp; first | done | rfl)
       simp only [Act.put, List.setIfInBounds_toArray, List.set_cons_zero, List.set_cons_succ]))
  refine wpTr_one ?_
  refine stepTr_K (by simp only [List.getElem?_toArray, List.getElem?_cons_zero, List.getElem?_cons_succ]; rfl) (by rfl) (fun K hK => ?_)
  go_simp
  refine (CF.out w1.drew (Below.refl _ _).drew).mono ?_
  rintro e w2 ⟨rfl, hb2⟩
  have HBL2 : Hid (Below w1.heap.size w1 w2) := (Below.refl _ _).drew.trans hb2
  have HB2 := Lib.hid (HB1.out.trans (HBL2.out.mono hbs))
  have HK2 := Lib.hid (HK1.out.after HBL2.out)
  obtain ⟨s0, s1, s2, s3, s4, s5, sl⟩ := tab6 HK2.out
  have hs3 := s3
  have hs5 := s5
  rw [HX3.out, HNL.out] at s3
  rw [HX5.out, HNR.out] at s5
  refine hK.out _ _ ⟨⟨s3, s5, sl⟩, (HBL2.out.cell (p := ⟨bl, ol + l, none⟩) hbl2).trans ccl, (HBL2.out.cell (p := ⟨br, or + r, none⟩) hbr2).trans ccr⟩ ?_
  clear hK K hb2
  try simp only [Act.put, List.setIfInBounds_toArray, List.set_cons_zero, List.set_cons_succ]
  repeat (first
    | (refine wpTr_fskip (by simp only [List.getElem?_toArray, List.getElem?_cons_zero, List.getElem?_cons_succ]; rfl) (by rfl) ?_
       simp only [Act.put, List.setIfInBounds_toArray, List.set_cons_zero, List.set_cons_succ])
    | (refine wpTr_float (v := ?_) (by simp only [List.getElem?_toArray, List.getElem?_cons_zero, List.getElem?_cons_succ]; rfl) (by rfl) (fun w' hS => ?_) ?_
       rotate_left
       ((skip); go_simp; first | done | rfl)
       simp only [Act.put, List.setIfInBounds_toArray, List.set_cons_zero, List.set_cons_succ]))
  refine wpTr_done ?_
  cases hR : comm p q with
  | none =>
    have HF := Lib.hid (actS_none hxl.out hxr.out hR)
    clear hR
    simp only [Option.getD_none, Option.isSome_none]
    go_wp2
    go_ret2
    exact ⟨-1, by rw [HF.out]; rfl, HB2.out⟩
  | some z =>
    have hz := asc_ge HAP.out z (comm_mem hR).1
    have hz2 : z < (t.act.length : Int) := by
      obtain ⟨k, hk, e⟩ := List.getElem_of_mem (comm_mem hR).1
      exact (asc_mem HAP.out k z (e ▸ List.getElem?_eq_getElem hk)).2
    obtain ⟨zn, rfl⟩ : ∃ zn : Nat, z = (zn : Int) := ⟨z.toNat, by omega⟩
    have HF := Lib.hid (actS_some hxl.out hxr.out hR)
    clear hR
    obtain ⟨ba, oa, y, hAa, hba, hxa, cca⟩ := (HT.out.2.1.1.below HB2.out).at_int (k := zn) (by omega)
    have HY : Hid (t.act.getD zn 0 = y) := by
      show _ = _
      rw [List.getD_eq_getElem?_getD, hxa.out]
      rfl
    rw [hAa] at s1
    obtain ⟨nac, hnac⟩ : ∃ n, t.act.length = n := ⟨_, rfl⟩
    rw [hnac] at s1 hz2
    have hzn : zn < nac := by omega
    simp only [Option.getD_some, Option.isSome_some]
    clear hAa hnac hs3 hs5
    go_wp2
    go_ret2
    refine ⟨(zn : Int), ?_, HB2.out⟩
    rw [HF.out, Int.toNat_natCast, HY.out]
    rfl
set_option maxRecDepth 100000 in
set_option maxHeartbeats 4000000 in
theorem actions_any (x : TA) (t : BT) (A : Option Addr) (c : Nat) (l : List Int) (w : World) (h : TabAt w w.heap.size x t) (hsm : t.cls.length ≤ 1000 ∧ t.act.length ≤ 1000) (hl : Row w w.heap.size A (ints l)) (hll : l.length ≤ 100000) :
    Calls Try.prog 88 #[x.val t, .slice A l.length c] w (RetI w (actL t l)) := by
  have CL := Lib.hid (fun (u : World) (hu : Below w.heap.size w u) => left_any x t A c l u (h.below hu).lt hsm (hl.below hu).lt hll)
  have CR := Lib.hid (fun (u : World) (hu : Below w.heap.size w u) => right_any x t A c l u (h.below hu).lt hsm (hl.below hu).lt hll)
  have CD := Lib.hid (fun (u : World) (hu : Below w.heap.size w u) (hv : validT t) (a b : Nat) (ha : a < t.ln.length) (hb : b < t.rn.length) => decide_any x t a b u (h.below hu).lt hv ha hb)
  unfold TA.val at CL CR CD ⊢
  unfold RetI at CL CR
  have HT := Lib.hid h
  have HL := Lib.hid hl
  obtain ⟨w1, hw1, HB1, HK1⟩ := boxT w 31 x t
  obtain ⟨n, hn⟩ : ∃ n, l.length = n := ⟨_, rfl⟩
  have HN := Lib.hid hn
  rw [hn] at hll CL CR ⊢
  obtain ⟨N, hN⟩ : ∃ N, (lefL t l).length = N := ⟨_, rfl⟩
  obtain ⟨N', hN'⟩ : ∃ N, (rigL t l).length = N := ⟨_, rfl⟩
  rw [hN] at CL
  rw [hN'] at CR
  have HNN := Lib.hid (And.intro hN hN')
  clear h hl hn hN hN'
  obtain ⟨i0, hi0, hz0, hz1, hz2⟩ := info_parts in_info31
  have hbs1 := HB1.out.size
  go_enter Try.func88, Try.ntmps88
  go_upto_region 1 with fail
  rw [← hw1]
  clear hw1
  refine wp_region_tree (fun w' => Blk w' w.heap.size 31 (x.cs t)) (.float 0 (.float 1 (.float 3 (.float 4 (.one 2 (.one 5 (.float 6 (.float 7 .done)))))))) (by kernel_rfl) (by kernel_rfl) (fun _ _ d _ _ h => by cases d <;> exact h) HK1.out.drew ?_
  repeat (first
    | (refine wpTr_fskip (by simp only [List.getElem?_toArray, List.getElem?_cons_zero, List.getElem?_cons_succ]; rfl) (by rfl) ?_
       simp only [Act.put, List.setIfInBounds_toArray, List.set_cons_zero, List.set_cons_succ])
    | (refine wpTr_float (v := ?_) (by simp only [List.getElem?_toArray, List.getElem?_cons_zero, List.getElem?_cons_succ]; rfl) (by rfl) (fun w' hS => ?_) ?_
       rotate_left
       ((obtain ⟨e0', e1', e2', e3', e4', e5', el'⟩ := tab6 hS); go_simp; first | done | rfl)
       simp only [Act.put, List.setIfInBounds_toArray, List.set_cons_zero, List.set_cons_succ]))
  refine wpTr_one ?_
  refine stepTr_K (by simp only [List.getElem?_toArray, List.getElem?_cons_zero, List.getElem?_cons_succ]; rfl) (by rfl) (fun K hK => ?_)
  go_simp
  refine (CL.out w1.drew HB1.out.drew).mono ?_
  rintro e w2 ⟨A2, c2, rfl, g1, g2, hr2, hb2⟩
  have HR2 := Lib.hid hr2
  have HG2 := Lib.hid (And.intro g1 g2)
  have HBL2 : Hid (Below w1.heap.size w1 w2) := (Below.refl _ _).drew.trans hb2
  have HB2 := Lib.hid (HB1.out.trans (HBL2.out.mono hbs1))
  have HK2 := Lib.hid (HK1.out.after HBL2.out)
  have hbs2 := HB2.out.size
  refine hK.out _ _ HK2.out ?_
  clear hK K hr2 g1 g2 hb2
  try simp only [Act.put, List.setIfInBounds_toArray, List.set_cons_zero, List.set_cons_succ]
  refine wpTr_one ?_
  refine stepTr_K (by simp only [List.getElem?_toArray, List.getElem?_cons_zero, List.getElem?_cons_succ]; rfl) (by rfl) (fun K hK => ?_)
  go_simp
  refine (CR.out w2 HB2.out).mono ?_
  rintro e w3 ⟨A3, c3, rfl, g1, g2, hr3, hb3⟩
  have HR3 := Lib.hid hr3
  have HG3 := Lib.hid (And.intro g1 g2)
  have HB3 := Lib.hid (HB2.out.trans (hb3.mono hbs2))
  have HK3 := Lib.hid (HK2.out.after hb3)
  have HR2' := Lib.hid (HR2.out.below hb3).lt
  have hbs3 := HB3.out.size
  refine hK.out _ _ HK3.out ?_
  clear hK K hr3 g1 g2 hb3
  try simp only [Act.put, List.setIfInBounds_toArray, List.set_cons_zero, List.set_cons_succ]
  repeat (first
    | (refine wpTr_fskip (by simp only [List.getElem?_toArray, List.getElem?_cons_zero, List.getElem?_cons_succ]; rfl) (by rfl) ?_
       simp only [Act.put, List.setIfInBounds_toArray, List.set_cons_zero, List.set_cons_succ])
    | (refine wpTr_float (v := ?_) (by simp only [List.getElem?_toArray, List.getElem?_cons_zero, List.getElem?_cons_succ]; rfl) (by rfl) (fun w' hS => ?_) ?_
       rotate_left
       ((skip); go_simp; first | done | rfl)
       simp only [Act.put, List.setIfInBounds_toArray, List.set_cons_zero, List.set_cons_succ]))
  refine wpTr_done ?_
  by_cases hP : fitsL t l ∧ validT t
  case neg =>
    obtain ⟨hx1, hx2⟩ := HNN.out
    unfold lefL at hx1
    unfold rigL at hx2
    rw [if_neg hP] at hx1 hx2
    simp at hx1 hx2
    subst hx1 hx2
    have HX : Hid (actL t l = []) := by
      show _ = _
      unfold actL
      rw [if_neg hP]
    go_wp2
    go_loopw [7, 19] (fun vo i wr => vo = .slice none 0 0 ∧ i = .int .i64 0 ∧ wr = w3) (fun _ _ _ => 0)
    case atStart => exact ⟨rfl, rfl, rfl⟩
    case round =>
      obtain ⟨rfl, rfl, hw⟩ := hrel
      subst wr
      go_wp2
      go_ret
      rw [HX.out]
      exact ⟨none, 0, rfl, by simp, by simp [maxLen], Row.nil, HB3.out⟩
  case pos =>
    have HP := Lib.hid hP
    have HX : Hid (actL t l = actsL t l) := by
      show _ = _
      unfold actL
      rw [if_pos hP]
    obtain ⟨hx1, hx2⟩ := HNN.out
    unfold lefL at hx1 HR2'
    unfold rigL at hx2 HR3
    rw [if_pos hP] at hx1 hx2 HR2' HR3
    rw [lefts_len, HN.out] at hx1
    rw [rights_len, HN.out] at hx2
    obtain rfl : N = N' := by omega
    have hNn : N = n + 1 := by omega
    have HNn := Lib.hid hNn
    have hN2 : N ≤ 100001 := by omega
    clear hx1 hx2 hP hNn
    go_wp2
    go_loopw [7, 19] (fun vo i wr => ∃ (k no c0 : Nat) (A0 : Option Addr) (out : List Int), k ≤ N ∧ i = .int .i64 (k : Int) ∧ vo = .slice A0 no c0 ∧ no ≤ k ∧ Hid (out = (actsL t l).take k) ∧ Hid (wr.ownsRow w3.heap.size 3 1 (.slice A0 no c0) no (ints out)) ∧ Hid (Below w3.heap.size w3 wr)) (fun _ i _ => N - (intOf i).toNat)
    case atStart => exact ⟨0, 0, 0, none, [], by omega, rfl, rfl, by omega, by show _ = _; simp, own_nil _, Below.refl _ _⟩
    case round =>
      obtain ⟨k, no, c0, A0, out, hk, rfl, rfl, hno, HOU, HO, HB⟩ := hrel
      have hbr := HB.out.size
      have HBw := Lib.hid (HB3.out.trans (HB.out.mono hbs3))
      have HKr := Lib.hid (HK3.out.after HB.out)
      by_cases hkn : k < N
      · have hkl : k ≤ l.length := by rw [HN.out]; have := HNn.out; omega
        have hsl := runA_fit HP.out.2.2.2.2.1 (l.take k) 0 ⟨by omega, by have := HP.out.2.2.2.2.1.1.1; omega⟩ (fun c hc => HP.out.1 c (List.mem_of_mem_take hc))
        have hsr := runR_fit HP.out.2.2.2.2.2 (l.drop k) (fun c hc => HP.out.1 c (List.mem_of_mem_drop hc))
        obtain ⟨s, hs⟩ : ∃ s, runA t.ln 0 (l.take k) = s := ⟨_, rfl⟩
        obtain ⟨u, hu⟩ : ∃ s, runR t.rn (l.drop k) = s := ⟨_, rfl⟩
        rw [hs] at hsl
        rw [hu] at hsr
        obtain ⟨sn, rfl⟩ : ∃ sn : Nat, s = (sn : Int) := ⟨s.toNat, by omega⟩
        obtain ⟨un, rfl⟩ : ∃ un : Nat, u = (un : Int) := ⟨u.toNat, by omega⟩
        have HACT : Hid ((actsL t l)[k]? = some (actS t (sn : Int) (un : Int))) := by
          show _ = _
          rw [acts_get hkl, hs, hu]
        obtain ⟨b1, o1, x1, hA2, hb1, hx1, cc1⟩ := (HR2'.out.below HB.out).at_int (k := k) (by rw [lefts_len]; omega)
        obtain ⟨b2, o2, x2, hA3, hb2, hx2, cc2⟩ := (HR3.out.below HB.out).at_int (k := k) (by rw [rights_len]; omega)
        obtain rfl : x1 = (sn : Int) := by
          have := hx1.out
          rw [lefts_get hkl, hs] at this
          injection this with this
          exact this.symm
        obtain rfl : x2 = (un : Int) := by
          have := hx2.out
          rw [rights_get hkl, hu] at this
          injection this with this
          exact this.symm
        subst hA2 hA3
        obtain ⟨av, hav⟩ : ∃ av, actS t (sn : Int) (un : Int) = av := ⟨_, rfl⟩
        have CDD := fun (z : World) (hz : Below w.heap.size w z) => CD.out z hz HP.out.2 sn un (by omega) (by omega)
        rw [hav] at CDD HACT
        replace CDD := Lib.hid CDD
        have HOU' : Hid (out ++ [av] = (actsL t l).take (k + 1)) := by
          show _ = _
          obtain ⟨h1, h2⟩ := List.getElem?_eq_some_iff.1 HACT.out
          rw [List.take_succ_eq_append_getElem h1, h2, HOU.out]
        have hq1 : b1 < wr.heap.size := by omega
        have hq2 : b2 < wr.heap.size := by omega
        clear hs hu hav hsl hsr
        go_wp2
        refine wp_region_tree (fun w' => Blk w' w.heap.size 31 (x.cs t) ∧ w'.cell? ⟨b1, o1 + k, none⟩ = some (.int .i64 (sn : Int)) ∧ w'.cell? ⟨b2, o2 + k, none⟩ = some (.int .i64 (un : Int))) (.float 0 (.float 1 (.float 2 (.float 3 (.float 4 (.float 5 (.float 6 (.float 7 (.float 8 (.one 9 (.float 10 (.float 11 (.float 12 (.float 13 (.float 14 .done))))))))))))))) (by kernel_rfl) (by kernel_rfl) (fun _ _ d _ _ h => by cases d <;> exact h) ⟨HKr.out.drew, cc1, cc2⟩ ?_
        repeat (first
          | (refine wpTr_fskip (by simp only [List.getElem?_toArray, List.getElem?_cons_zero, List.getElem?_cons_succ]; rfl) (by rfl) ?_
             simp only [Act.put, List.setIfInBounds_toArray, List.set_cons_zero, List.set_cons_succ])
          | (refine wpTr_float (v := ?_) (by simp only [List.getElem?_toArray, List.getElem?_cons_zero, List.getElem?_cons_succ]; rfl) (by rfl) (fun w' hS => ?_) ?_
             rotate_left
             ((obtain ⟨hSK, e1', e2'⟩ := hS; obtain ⟨s0', s1', s2', s3', s4', s5', sl'⟩ := tab6 hSK); go_simp; first | done | rfl)
             simp only [Act.put, List.setIfInBounds_toArray, List.set_cons_zero, List.set_cons_succ]))
        refine wpTr_one ?_
        refine stepTr_K (by simp only [List.getElem?_toArray, List.getElem?_cons_zero, List.getElem?_cons_succ]; rfl) (by rfl) (fun K hK => ?_)
        go_simp
        refine (CDD.out wr.drew HBw.out.drew).mono ?_
        rintro e w4 ⟨z, rfl, hb4⟩
        have HBL4 : Hid (Below wr.heap.size wr w4) := (Below.refl _ _).drew.trans hb4
        have HK4 := Lib.hid (HKr.out.after HBL4.out)
        refine hK.out _ _ ⟨HK4.out, (HBL4.out.cell (p := ⟨b1, o1 + k, none⟩) hq1).trans cc1, (HBL4.out.cell (p := ⟨b2, o2 + k, none⟩) hq2).trans cc2⟩ ?_
        clear hK K hb4
        try simp only [Act.put, List.setIfInBounds_toArray, List.set_cons_zero, List.set_cons_succ]
        repeat (first
          | (refine wpTr_fskip (by simp only [List.getElem?_toArray, List.getElem?_cons_zero, List.getElem?_cons_succ]; rfl) (by rfl) ?_
             simp only [Act.put, List.setIfInBounds_toArray, List.set_cons_zero, List.set_cons_succ])
          | (refine wpTr_float (v := ?_) (by simp only [List.getElem?_toArray, List.getElem?_cons_zero, List.getElem?_cons_succ]; rfl) (by rfl) (fun w' hS => ?_) ?_
             rotate_left
             ((skip); go_simp; first | done | rfl)
             simp only [Act.put, List.setIfInBounds_toArray, List.set_cons_zero, List.set_cons_succ]))
        refine wpTr_done ?_
        have HO4 := Lib.hid (ow_below HO.out HBL4.out)
        have HB4 : Hid (Below w3.heap.size w3 w4) := HB.out.trans (HBL4.out.mono hbr)
        have hbs4 := HB4.out.size
        go_wp2_with (first
          | (at_builtin
             refine wpList_append_row _ rfl (.tmp 35) (.tmp 37) _ rfl w3.heap.size 3 i0 _ 1 8 Try.underlying26 hi0 hz0 hz1 hz2 rfl (by omega) (.slice A0 no c0) no (ints out) rfl (ow_alloc HO4.out _) _ _ 1 1 [Value.int .i64 av] rfl rfl (row_lit w4 _ _) (ints_one1 _) (by simp only [maxLen]; omega) (by omega) (by simp; omega) ?_
             intro q5 w5 o5 g5 t5
             obtain ⟨A5, c5, rfl⟩ := ow_slice (m := no + 1) o5 rfl
             rw [← ints_snoc] at o5
             have HB5 : Hid (Below w3.heap.size w3 w5) := (HB4.out.alloc hbs4 _).grown g5 (by simp; omega) (fun g hg => own_base HO4.out g hg)
             have HO5 := Lib.hid o5
             clear o5 g5 t5))
        go_roundw
        case rel => exact ⟨k + 1, no + 1, c5, A5, _, by omega, by go_num, rfl, by omega, HOU', HO5, HB5⟩
        case measure => simp [intOf]; omega
      · have HE : Hid (out = actsL t l) := by
          show _ = _
          rw [HOU.out, List.take_of_length_le (by rw [acts_len, HN.out]; have := HNn.out; omega)]
        rw [HE.out] at HO
        go_wp2
        go_ret
        rw [HX.out]
        obtain ⟨r1, r2, r3⟩ := ow_row HO.out
        have hle := HO.out.1
        rw [ints_len, Nat.mul_one] at hle
        exact ⟨A0, c0, by rw [hle]; rfl, by rw [hle]; exact r2, r3, r1, HBw.out⟩
end Go.Proofs.Ytkpblieanejmeaa
