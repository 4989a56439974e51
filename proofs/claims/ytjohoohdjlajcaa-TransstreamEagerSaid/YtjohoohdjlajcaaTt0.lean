/-
  transduce.set, transduce.preceded.
  transduce.preceded.
-/
import Derived.Test.YtjohoohdjlajcaaProg
import Derived.Test.YtjohoohdjlajcaaBase
import Derived.Test.YtjohoohdjlajcaaOwn
import Derived.Test.YtjohoohdjlajcaaTd1
import Derived.Test.YtjohoohdjlajcaaTd2
import Derived.Test.YtjohoohdjlajcaaCs2
import Derived.Laws.OwnMore
import Derived.WalkKit
import Derived.Deep.QuietTactic
import Derived.BigQuiet
import Derived.Deep.DeepCutAuto
import Derived.KernelRfl
import Derived.Outline
import Derived.IntWalk
import Derived.Laws.Cover1
import Derived.Laws.ResultCell
import Derived.Test.YtjohoohdjlajcaaTree
namespace Go.Proofs.Ytjohoohdjlajcaa
open Go.RowKit Go.UtYtjohoohdjlajcaa
theorem below_box2 (w : World) (o1 o2 : Obj) : Below w.heap.size w ((w.alloc o1).alloc o2) := ((Below.refl _ _).alloc (Nat.le_refl _) _).alloc (by simp) _
/-- a set that was found -/
def RetOk (w : World) (s : List Rg) (e : Ending) (w' : World) : Prop :=
  ∃ A' c', e = .returned (.tuple #[.agg #[.slice A' s.length c'], .bool true]) ∧ s.length ≤ c' ∧ c' ≤ maxLen ∧ Row w w.heap.size A' (prs s) ∧ Below w.heap.size w w'
set_option maxRecDepth 100000 in
set_option maxHeartbeats 1000000 in
theorem set_some (r : TR) (vs : List Value) (i : Nat) (s : List Rg) (w : World) (hR : RuleAt w w.heap.size vs r) (hi : r.ma[i]? = some s) :
    Calls Try.prog 58 #[.agg vs.toArray, .int .i64 (i : Int)] w (RetOk w s) := by
  obtain ⟨Ab, cb, Am, cm, Aa, ca, Ar, cr, rfl, ⟨rb, rm, ra, rr⟩, ⟨b1, b2⟩, ⟨m1, m2⟩, ⟨a1, a2⟩, ⟨r1, r2⟩⟩ := hR
  have RM := Lib.hid rm
  have RA := Lib.hid ra
  unfold maxLen at b2 m2 a2 r2
  clear rb rm ra rr
  obtain ⟨w1, h1, HB1⟩ : ∃ w1, w1 = (w.alloc (.cells #[.slice Ab r.bef.length cb, .slice Am r.mat.length cm, .slice Aa r.aft.length ca, .slice Ar r.res.length cr] 41)).alloc (.cells #[.slice none 0 0] 45) ∧ Hid (Below w.heap.size w w1) := ⟨_, rfl, ((Below.refl _ _).alloc (Nat.le_refl _) _).alloc (by simp) _⟩
  obtain ⟨nb, hnb⟩ : ∃ n, r.bef.length = n := ⟨_, rfl⟩
  obtain ⟨nm, hnm⟩ : ∃ n, r.mat.length = n := ⟨_, rfl⟩
  obtain ⟨na, hna⟩ : ∃ n, r.aft.length = n := ⟨_, rfl⟩
  obtain ⟨nr, hnr⟩ : ∃ n, r.res.length = n := ⟨_, rfl⟩
  rw [hnb] at b1
  rw [hnm] at m1
  rw [hna] at a1
  rw [hnr] at r1
  rw [hnb, hnm, hna, hnr] at h1 ⊢
  by_cases hc : i < nm
  · have hx : r.mat[i]? = some s := by
      rw [TR.ma, List.getElem?_append_left (by omega)] at hi
      exact hi
    obtain ⟨b, o, A', c', s', rfl, hb, hx', cc, l1, l2, HS⟩ := RM.out.at_ (k := i) (by omega)
    obtain rfl : s' = s := by
      have := hx'.out
      rw [hx] at this
      injection this with this
      exact this.symm
    have HX := Lib.hid hx
    have HI := Lib.hid hi
    clear hx hi hx'
    obtain ⟨ns, hns⟩ : ∃ n, s'.length = n := ⟨_, rfl⟩
    have HNS := Lib.hid hns
    rw [hns] at cc l1
    clear hns
    go_enter Try.func58, Try.ntmps58
    go_wp2
    (try simp only [Exit.inBlock, Exit.then])
    refine bodyPost_ret (v := .tuple #[.agg #[.slice A' ns c'], .bool true]) (by rw [results_cell_tmp rfl]; go_simp) rfl ?_
    refine ⟨A', c', by rw [HNS.out], by rw [HNS.out]; exact l1, l2, HS.out, ?_⟩
    exact below_box2 w _ _
  · have hx : r.aft[i - nm]? = some s := by
      rw [TR.ma, List.getElem?_append_right (by omega), hnm] at hi
      exact hi
    have hl : i - nm < na := by
      have := (List.getElem?_eq_some_iff.1 hx).1
      omega
    obtain ⟨b, o, A', c', s', rfl, hb, hx', cc, l1, l2, HS⟩ := RA.out.at_ (k := i - nm) (by omega)
    obtain rfl : s' = s := by
      have := hx'.out
      rw [hx] at this
      injection this with this
      exact this.symm
    have HX := Lib.hid hx
    have HI := Lib.hid hi
    clear hx hi hx'
    obtain ⟨ns, hns⟩ : ∃ n, s'.length = n := ⟨_, rfl⟩
    have HNS := Lib.hid hns
    rw [hns] at cc l1
    clear hns
    obtain ⟨j, rfl⟩ : ∃ j, i = nm + j := ⟨i - nm, by omega⟩
    rw [Nat.add_sub_cancel_left] at hl cc
    go_enter Try.func58, Try.ntmps58
    go_wp2
    (try simp only [Exit.inBlock, Exit.then])
    refine bodyPost_ret (v := .tuple #[.agg #[.slice A' ns c'], .bool true]) (by rw [results_cell_tmp rfl]; go_simp) rfl ?_
    refine ⟨A', c', by rw [HNS.out], by rw [HNS.out]; exact l1, l2, HS.out, ?_⟩
    exact below_box2 w _ _
set_option maxRecDepth 100000 in
set_option maxHeartbeats 1000000 in
theorem set_none (r : TR) (vs : List Value) (i : Nat) (w : World) (hR : RuleAt w w.heap.size vs r) (hi : r.ma[i]? = none) (hb : (i : Int) ≤ 1000000) :
    Calls Try.prog 58 #[.agg vs.toArray, .int .i64 (i : Int)] w fun e w' => e = .returned (.tuple #[.agg #[.slice none 0 0], .bool false]) ∧ Below w.heap.size w w' := by
  obtain ⟨Ab, cb, Am, cm, Aa, ca, Ar, cr, rfl, ⟨rb, rm, ra, rr⟩, ⟨b1, b2⟩, ⟨m1, m2⟩, ⟨a1, a2⟩, ⟨r1, r2⟩⟩ := hR
  unfold maxLen at b2 m2 a2 r2
  clear rb rm ra rr
  have hl : r.mat.length + r.aft.length ≤ i := by
    have := List.getElem?_eq_none_iff.1 hi
    rw [TR.ma, List.length_append] at this
    exact this
  obtain ⟨nb, hnb⟩ : ∃ n, r.bef.length = n := ⟨_, rfl⟩
  obtain ⟨nm, hnm⟩ : ∃ n, r.mat.length = n := ⟨_, rfl⟩
  obtain ⟨na, hna⟩ : ∃ n, r.aft.length = n := ⟨_, rfl⟩
  obtain ⟨nr, hnr⟩ : ∃ n, r.res.length = n := ⟨_, rfl⟩
  rw [hnb] at b1
  rw [hnm] at m1
  rw [hna] at a1
  rw [hnr] at r1
  rw [hnm, hna] at hl
  rw [hnb, hnm, hna, hnr]
  clear hi hnb hnm hna hnr
  obtain ⟨j, rfl⟩ : ∃ j, i = nm + j := ⟨i - nm, by omega⟩
  have hj : na ≤ j := by omega
  go_enter Try.func58, Try.ntmps58
  go_wp2
  (try simp only [Exit.inBlock, Exit.then])
  refine bodyPost_ret (v := .tuple #[.agg #[.slice none 0 0], .bool false]) (by rw [results_cell_tmp rfl]; go_simp) rfl ?_
  exact ⟨rfl, below_box2 w _ _⟩
end Go.Proofs.Ytjohoohdjlajcaa
namespace Go.UtYtjohoohdjlajcaa
open Go.RowKit
/-- the first k sets hold what stands from q on -/
def hitsK (sets : List (List Rg)) (text : List Int) (q k : Nat) : Prop := ∀ (i : Nat) (s : List Rg) (c : Int), i < k → sets[i]? = some s → text[q + i]? = some c → hasP s c
theorem hitsK_zero {sets : List (List Rg)} {text : List Int} {q : Nat} : hitsK sets text q 0 := fun i s c h => by omega
theorem hitsK_succ {sets : List (List Rg)} {text : List Int} {q k : Nat} {s : List Rg} {c : Int} (h : hitsK sets text q k) (hs : sets[k]? = some s) (hc : text[q + k]? = some c) (hp : hasP s c) : hitsK sets text q (k + 1) := by
  intro i s' c' hi hs' hc'
  rcases Nat.lt_or_ge i k with h1 | h1
  · exact h i s' c' h1 hs' hc'
  · obtain rfl : i = k := by omega
    rw [hs] at hs'
    rw [hc] at hc'
    cases hs'
    cases hc'
    exact hp
theorem hitsK_all {sets : List (List Rg)} {text : List Int} {q : Nat} (h : hitsK sets text q sets.length) (hl : q + sets.length ≤ text.length) : hits sets text q :=
  ⟨hl, fun i s c hs hc => h i s c (List.getElem?_eq_some_iff.1 hs).1 hs hc⟩
end Go.UtYtjohoohdjlajcaa
namespace Go.Proofs.Ytjohoohdjlajcaa
open Go.RowKit Go.UtYtjohoohdjlajcaa
set_option maxRecDepth 100000 in
set_option maxHeartbeats 1000000 in
theorem preceded_any (r : TR) (vs : List Value) (A : Option Addr) (c : Nat) (text : List Int) (p : Nat) (w : World) (hR : RuleAt w w.heap.size vs r) (hT : Row w w.heap.size A (ints text)) (hp : p ≤ text.length) (hl : text.length ≤ 1000000000) (v : Bool) (hv : v = true ↔ prec r text p) :
    Calls Try.prog 59 #[.agg vs.toArray, .slice A text.length c, .int .i64 (p : Int)] w fun e w' => e = .returned (.bool v) ∧ Below w.heap.size w w' := by
  obtain ⟨Ab, cb, Am, cm, Aa, ca, Ar, cr, rfl, ⟨rb, rm, ra, rr⟩, ⟨b1, b2⟩, ⟨m1, m2⟩, ⟨a1, a2⟩, ⟨r1, r2⟩⟩ := hR
  have RB := Lib.hid rb
  have RT := Lib.hid hT
  have HV := Lib.hid hv
  unfold maxLen at b2 m2 a2 r2
  clear rb rm ra rr hv hT
  obtain ⟨nb, hnb⟩ : ∃ n, r.bef.length = n := ⟨_, rfl⟩
  obtain ⟨nm, hnm⟩ : ∃ n, r.mat.length = n := ⟨_, rfl⟩
  obtain ⟨na, hna⟩ : ∃ n, r.aft.length = n := ⟨_, rfl⟩
  obtain ⟨nr, hnr⟩ : ∃ n, r.res.length = n := ⟨_, rfl⟩
  obtain ⟨nt, hnt⟩ : ∃ n, text.length = n := ⟨_, rfl⟩
  rw [hnb] at b1
  rw [hnm] at m1
  rw [hna] at a1
  rw [hnr] at r1
  rw [hnt] at hp hl
  rw [hnb, hnm, hna, hnr, hnt]
  have HNB := Lib.hid hnb
  have HNT := Lib.hid hnt
  clear hnm hna hnr hnb hnt
  by_cases hc : p < nb
  · have HF : Hid (v = false) := by
      show _ = _
      cases v with
      | false => rfl
      | true =>
        have := (HV.out.1 rfl).1
        have := HNB.out
        omega
    go_enter Try.func59, Try.ntmps59
    go_wp2
    go_ret
    exact ⟨ret_bool HF.out.symm, (Below.refl _ _).alloc (Nat.le_refl _) _⟩
  · obtain ⟨q, hq⟩ : ∃ q, p = nb + q := ⟨p - nb, by omega⟩
    have hqn : nb + q ≤ nt := by omega
    have e0 : (p : Int) - (nb : Int) = (q : Int) := by omega
    have HQ := Lib.hid hq
    clear hq
    obtain ⟨w1, h1, HB1⟩ : ∃ w1, w1 = w.alloc (.cells #[.slice Ab nb cb, .slice Am nm cm, .slice Aa na ca, .slice Ar nr cr] 41) ∧ Hid (Below w.heap.size w w1) := ⟨_, rfl, (Below.refl _ _).alloc (Nat.le_refl _) _⟩
    go_enter Try.func59, Try.ntmps59
    go_wp2
    try simp only [e0]
    rw [← h1]
    clear e0
    go_loopw [20] (fun i wr => ∃ k : Nat, k ≤ nb ∧ i = .int .i64 (k : Int) ∧ Hid (hitsK r.bef text q k) ∧ Hid (Below w.heap.size w wr)) (fun i _ => nb - (intOf i).toNat)
    case atStart => exact ⟨0, by omega, rfl, hitsK_zero, HB1⟩
    case round =>
      obtain ⟨k, hk, rfl, HK, HB⟩ := hrel
      have hbs := HB.out.size
      by_cases h2 : k < nb
      · obtain ⟨b, o, A', c', s, rfl, hb, hx, cc, l1, l2, HS⟩ := (RB.out.below HB.out).at_ (k := k) (by have := HNB.out; omega)
        obtain ⟨bt, ot, x, rfl, hbt, hxt, cct⟩ := (RT.out.below HB.out).at_int (k := q + k) (by have := HNT.out; omega)
        obtain ⟨ns, hns⟩ : ∃ n, s.length = n := ⟨_, rfl⟩
        have l3 := Nat.le_trans l1 l2
        have HL := Lib.hid l3
        have HNS := Lib.hid hns
        rw [hns] at cc l1
        have HH : Hid (∀ (u : World) (A' : Option Addr) (v' : Bool), Row u u.heap.size A' (prs s) → decide (hasP s x) = v' → Calls Try.prog 66 #[.agg #[.slice A' ns c'], .int .i64 x] u fun e w' => e = .returned (.bool v') ∧ Below u.heap.size u w') := by
          intro u A' v' h1 h2
          rw [← hns]
          exact has_any A' c' s x u h1 HL.out v' h2
        clear hns l3
        go_wp2
        obtain ⟨wa, hwa, HBA, HXA⟩ : ∃ v, v = wr.alloc (.cells #[.slice A' ns c'] 45) ∧ Hid (Below w.heap.size w v) ∧ Hid (Blk v wr.heap.size 45 #[.slice A' ns c'] ∧ Below wr.heap.size wr v) := ⟨_, rfl, HB.out.alloc hbs _, Blk.new _ _ _, (Below.refl _ _).alloc (Nat.le_refl _) _⟩
        rw [← hwa]
        clear hwa
        have k1 : IntKind.i64.wrap ((q : Int) + (k : Int)) = (q : Int) + (k : Int) := IntWalk.i64_in _ (by omega)
        have k2 : (0 : Int) ≤ (q : Int) + (k : Int) := by omega
        have k3 : (q : Int) + (k : Int) < (nt : Int) := by omega
        have k4 : ((q : Int) + (k : Int)).toNat = q + k := by omega
        refine wp_region_tree (fun w' => w'.cell? ⟨wr.heap.size, 0, none⟩ = some (.slice A' ns c') ∧ w'.cell? ⟨bt, ot + (q + k), none⟩ = some (.int .i64 x)) (.float 0 (.float 1 (.float 2 (.float 3 (.float 4 (.float 5 (.float 6 (.one 7 (.float 8 .done))))))))) (by kernel_rfl) (by kernel_rfl) (fun _ _ d _ _ h => by cases d <;> exact h) ⟨HXA.out.1.cell 0, (HXA.out.2.cell (p := ⟨bt, ot + (q + k), none⟩) (by simp; omega)).trans cct⟩ ?_
        repeat (first
          | (refine wpTr_fskip (by simp only [List.getElem?_toArray, List.getElem?_cons_zero, List.getElem?_cons_succ]; rfl) (by rfl) ?_
             simp only [Act.put, List.setIfInBounds_toArray, List.set_cons_zero, List.set_cons_succ])
          | (refine wpTr_float (v := ?_) (by simp only [List.getElem?_toArray, List.getElem?_cons_zero, List.getElem?_cons_succ]; rfl) (by rfl) (fun w' hS => ?_) ?_
             rotate_left
             ((obtain ⟨e1, e2⟩ := hS); go_simp; first | done | rfl)
             simp only [Act.put, List.setIfInBounds_toArray, List.set_cons_zero, List.set_cons_succ]))
        refine wpTr_one ?_
        refine stepTr_K (by simp only [List.getElem?_toArray, List.getElem?_cons_zero, List.getElem?_cons_succ]; rfl) (by rfl) (fun K hK => ?_)
        go_simp
        clear k1 k2 k3 k4
        have HSD : Hid (Row wa.drew wa.drew.heap.size A' (prs s)) := ((HS.out.below (HXA.out.2.mono hbs)).more HBA.out.size)
        by_cases hy : hasP s x
        · refine (HH.out _ _ true HSD.out (decide_eq_true hy)).mono ?_
          rintro e w3 ⟨rfl, hb3⟩
          have HB3 : Hid (Below w.heap.size w w3) := (HBA.out.drew.trans (hb3.mono HBA.out.size))
          have HN := Lib.hid (hitsK_succ HK.out hx.out hxt.out hy)
          refine hK.out _ _ ⟨(hb3.cell (p := ⟨wr.heap.size, 0, none⟩) HXA.out.1.lt).trans (HXA.out.1.cell 0), (hb3.cell (p := ⟨bt, ot + (q + k), none⟩) (by have := HXA.out.1.lt; show bt < wa.heap.size; omega)).trans ((HXA.out.2.cell (p := ⟨bt, ot + (q + k), none⟩) (by simp; omega)).trans cct)⟩ ?_
          clear hK K hb3
          try simp only [Act.put, List.setIfInBounds_toArray, List.set_cons_zero, List.set_cons_succ]
          repeat (first
            | (refine wpTr_fskip (by simp only [List.getElem?_toArray, List.getElem?_cons_zero, List.getElem?_cons_succ]; rfl) (by rfl) ?_
               simp only [Act.put, List.setIfInBounds_toArray, List.set_cons_zero, List.set_cons_succ])
            | (refine wpTr_float (v := ?_) (by simp only [List.getElem?_toArray, List.getElem?_cons_zero, List.getElem?_cons_succ]; rfl) (by rfl) (fun w' hS => ?_) ?_
               rotate_left
               ((skip); go_simp; first | done | rfl)
               simp only [Act.put, List.setIfInBounds_toArray, List.set_cons_zero, List.set_cons_succ]))
          refine wpTr_done ?_
          go_wp2
          go_roundw
          case rel => exact ⟨k + 1, by omega, by go_num, HN, HB3⟩
          case measure => simp [intOf]; omega
        · refine (HH.out _ _ false HSD.out (decide_eq_false hy)).mono ?_
          rintro e w3 ⟨rfl, hb3⟩
          have HB3 : Hid (Below w.heap.size w w3) := (HBA.out.drew.trans (hb3.mono HBA.out.size))
          have HF : Hid (v = false) := by
            show _ = _
            cases v with
            | false => rfl
            | true =>
              have := (HV.out.1 rfl).2.2 k s x hx.out
              rw [HNB.out, HQ.out, Nat.add_sub_cancel_left] at this
              exact absurd (this hxt.out) hy
          refine hK.out _ _ ⟨(hb3.cell (p := ⟨wr.heap.size, 0, none⟩) HXA.out.1.lt).trans (HXA.out.1.cell 0), (hb3.cell (p := ⟨bt, ot + (q + k), none⟩) (by have := HXA.out.1.lt; show bt < wa.heap.size; omega)).trans ((HXA.out.2.cell (p := ⟨bt, ot + (q + k), none⟩) (by simp; omega)).trans cct)⟩ ?_
          clear hK K hb3
          try simp only [Act.put, List.setIfInBounds_toArray, List.set_cons_zero, List.set_cons_succ]
          repeat (first
            | (refine wpTr_fskip (by simp only [List.getElem?_toArray, List.getElem?_cons_zero, List.getElem?_cons_succ]; rfl) (by rfl) ?_
               simp only [Act.put, List.setIfInBounds_toArray, List.set_cons_zero, List.set_cons_succ])
            | (refine wpTr_float (v := ?_) (by simp only [List.getElem?_toArray, List.getElem?_cons_zero, List.getElem?_cons_succ]; rfl) (by rfl) (fun w' hS => ?_) ?_
               rotate_left
               ((skip); go_simp; first | done | rfl)
               simp only [Act.put, List.setIfInBounds_toArray, List.set_cons_zero, List.set_cons_succ]))
          refine wpTr_done ?_
          go_wp2
          go_ret
          exact ⟨ret_bool HF.out.symm, HB3.out⟩
      · obtain rfl : k = nb := by omega
        have HF : Hid (v = true) := by
          refine HV.out.2 ⟨by have := HNB.out; have := HQ.out; omega, hitsK_all ?_ ?_⟩
          · rw [HNB.out, HQ.out, Nat.add_sub_cancel_left]
            exact HK.out
          · have := HNB.out
            have := HNT.out
            have := HQ.out
            omega
        go_wp2
        go_ret
        exact ⟨ret_bool HF.out.symm, HB.out⟩
end Go.Proofs.Ytjohoohdjlajcaa
