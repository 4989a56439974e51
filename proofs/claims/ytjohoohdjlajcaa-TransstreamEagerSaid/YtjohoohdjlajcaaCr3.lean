/-
  ref02.Make, Or, And, Minus, Not, Subset, Valid; cpset.Valid: walks.
-/
import Derived.Test.YtjohoohdjlajcaaProg
import Derived.Test.YtjohoohdjlajcaaCr2
import Derived.Test.YtjohoohdjlajcaaCs9
import Derived.Laws.OwnMore
import Derived.WalkKit
import Derived.Deep.QuietTactic
import Derived.BigQuiet
import Derived.KernelRfl
import Derived.Outline
import Derived.IntWalk
namespace Go.Proofs.Ytjohoohdjlajcaa
open Go.RowKit Go.UtYtjohoohdjlajcaa
set_option maxRecDepth 100000 in
set_option maxHeartbeats 1000000 in
theorem rMake_any (A : Option Addr) (ca : Nat) (la : List Rg) (w : World) (hRA : Row w w.heap.size A (rgs la)) (hma : la.length ≤ 20000) :
    Calls Try.prog 68 #[.slice A la.length ca] w (RetSet w (hasP la)) := by
  obtain ⟨w1, h1, HB1, HX1⟩ : ∃ w1, w1 = w.alloc (.cells #[.slice none 0 0] 45) ∧ Hid (Below w.heap.size w w1) ∧ Hid (Blk w1 w.heap.size 45 #[.slice none 0 0]) := ⟨_, rfl, (Below.refl _ _).alloc (Nat.le_refl _) _, Blk.new _ _ _⟩
  have HRA := Lib.hid (hRA.below HB1.out).lt
  clear hRA
  go_enter Try.func68, Try.ntmps68
  go_wp2_with (first | (go_at_call 72; rw [← h1]; clear h1; refine (comb2_any 1 (by simp) A none ca 0 la [] w1 HRA.out Row.nil hma (by simp)).mono ?_; intro e w2 hr; obtain ⟨A2, c2, r, rfl, HX2, HX3, HR⟩ := retSet_store HB1.out HX1.out (by omega) hr; clear hr; have y0 := HX2.cell 0; have z0 := HX2.free 0; simp at y0))
  refine bodyPost_ret (v := .agg #[.slice A2 r.length c2]) ?_ rfl ?_
  · have q0 := HX3.out.cell 0
    simp at q0
    simp [results, Try.results68, go_sem, q0]
  · exact HR.out.iff (fun x => by
      have h0 : ¬ hasP [] x := fun h => memR_nil h.2
      by_cases h1 : hasP la x <;> simp [keepB, h1, h0]
      exact h1.1)
theorem can_iff {l r : List Rg} (hr : Cnn r) (hh : ∀ x, hasP r x ↔ hasP l x) : l = r ↔ Cnn l := ⟨fun h => h ▸ hr, fun h => (can_eq hr h hh).symm⟩
set_option maxRecDepth 100000 in
set_option maxHeartbeats 1000000 in
theorem rValid_any (A : Option Addr) (ca : Nat) (la : List Rg) (w : World) (hRA : Row w w.heap.size A (rgs la)) (hma : la.length ≤ 20000) (v : Bool) (hv : v = true ↔ Cnn la) :
    Calls Try.prog 61 #[.agg #[.slice A la.length ca]] w fun e w' => e = .returned (.bool v) ∧ Below w.heap.size w w' := by
  obtain ⟨w1, h1, HB1, HX1⟩ : ∃ w1, w1 = w.alloc (.cells #[.slice A la.length ca] 45) ∧ Hid (Below w.heap.size w w1) ∧ Hid (Blk w1 w.heap.size 45 #[.slice A la.length ca]) := ⟨_, rfl, (Below.refl _ _).alloc (Nat.le_refl _) _, Blk.new _ _ _⟩
  have HRA := Lib.hid (hRA.below HB1.out).lt
  have HV := Lib.hid hv
  clear hRA hv
  go_enter Try.func61, Try.ntmps61
  go_wp2_with fail
  rw [← h1]
  clear h1
  obtain ⟨d, hd, HBd, HXd⟩ : ∃ d, d = w1.drew ∧ Hid (Below w.heap.size w d) ∧ Hid (Blk d w.heap.size 45 #[.slice A la.length ca]) := ⟨_, rfl, below_drewN HB1.out 1, HX1.out⟩
  have HRd : Hid (Row d d.heap.size A (rgs la)) := by rw [hd]; exact HRA.out
  refine wp_region_tree (fun w' => Below w.heap.size w w' ∧ Blk w' w.heap.size 45 #[.slice A la.length ca]) (.float 0 (.float 1 (.float 2 (.one 3 (.one 4 (.float 5 .done)))))) (by kernel_rfl) (by kernel_rfl) (fun _ _ d _ _ h => by cases d <;> exact h) (hd ▸ ⟨HBd.out, HXd.out⟩) ?_
  rw [← hd]
  clear hd
  repeat (first
    | (refine wpTr_fskip (by simp only [List.getElem?_toArray, List.getElem?_cons_zero, List.getElem?_cons_succ]; rfl) (by rfl) ?_
       simp only [Act.put, List.setIfInBounds_toArray, List.set_cons_zero, List.set_cons_succ])
    | (refine wpTr_float (v := ?_) (by simp only [List.getElem?_toArray, List.getElem?_cons_zero, List.getElem?_cons_succ]; rfl) (by rfl) (fun w' hS => ?_) ?_
       rotate_left
       (obtain ⟨hS1, hS2⟩ := hS; have e1 := hS2.cell 0; simp at e1; go_simp; first | done | rfl)
       simp only [Act.put, List.setIfInBounds_toArray, List.set_cons_zero, List.set_cons_succ]))
  refine wpTr_one ?_
  refine stepTr_K (by simp only [List.getElem?_toArray, List.getElem?_cons_zero, List.getElem?_cons_succ]; rfl) (by rfl) (fun K hK => ?_)
  go_simp
  refine (rMake_any A ca la d HRd.out hma).mono ?_
  rintro e w2 ⟨A2, c2, r, rfl, hc, hh, hr, hb⟩
  have HB2 := Lib.hid (HBd.out.trans (hb.mono HBd.out.size))
  have HX2 := Lib.hid (HXd.out.after hb)
  have HR2 := Lib.hid (HRd.out.below hb).lt
  have HRr := Lib.hid hr
  have hrl := can_len hc
  have HEQ := Lib.hid (can_iff hc hh)
  clear hc hh hr hb
  refine hK.out _ _ ⟨HB2.out, HX2.out⟩ ?_
  clear hK K
  try simp only [Act.put, List.setIfInBounds_toArray, List.set_cons_zero, List.set_cons_succ]
  refine wpTr_one ?_
  refine stepTr_K (by simp only [List.getElem?_toArray, List.getElem?_cons_zero, List.getElem?_cons_succ]; rfl) (by rfl) (fun K hK => ?_)
  go_simp
  refine (same_any A A2 ca c2 la.length r.length la r rfl rfl w2 HR2.out HRr.out (by simp only [maxLen]; omega) (by simp only [maxLen]; omega) v (by rw [Bool.eq_iff_iff, decide_eq_true_iff, HV.out]; exact HEQ.out)).mono ?_
  rintro e w3 ⟨rfl, hb⟩
  have HB3 := Lib.hid (HB2.out.trans (hb.mono HB2.out.size))
  have HX3 := Lib.hid (HX2.out.after hb)
  clear hb
  refine hK.out _ _ ⟨HB3.out, HX3.out⟩ ?_
  clear hK K
  try simp only [Act.put, List.setIfInBounds_toArray, List.set_cons_zero, List.set_cons_succ]
  repeat (first
    | (refine wpTr_fskip (by simp only [List.getElem?_toArray, List.getElem?_cons_zero, List.getElem?_cons_succ]; rfl) (by rfl) ?_
       simp only [Act.put, List.setIfInBounds_toArray, List.set_cons_zero, List.set_cons_succ])
    | (refine wpTr_float (v := ?_) (by simp only [List.getElem?_toArray, List.getElem?_cons_zero, List.getElem?_cons_succ]; rfl) (by rfl) (fun w' hS => ?_) ?_
       rotate_left
       (obtain ⟨hS1, hS2⟩ := hS; have e1 := hS2.cell 0; simp at e1; go_simp; first | done | rfl)
       simp only [Act.put, List.setIfInBounds_toArray, List.set_cons_zero, List.set_cons_succ]))
  refine wpTr_done ?_
  go_wp2
  go_ret
  exact ⟨rfl, HB3.out⟩
set_option maxRecDepth 100000 in
set_option maxHeartbeats 1000000 in
theorem validS_any (A : Option Addr) (n c : Nat) (l : List Rg) (hn : n = l.length) (w : World) (hR : Row w w.heap.size A (rgs l)) (hm : n ≤ 1099511627776) (v : Bool) (hv : v = true ↔ Cnn l) :
    Calls Try.prog 51 #[.agg #[.slice A n c]] w fun e w' => e = .returned (.bool v) ∧ Below w.heap.size w w' := by
  obtain ⟨w1, h1, HB1, HX1⟩ : ∃ w1, w1 = w.alloc (.cells #[.slice A n c] 45) ∧ Hid (Below w.heap.size w w1) ∧ Hid (Blk w1 w.heap.size 45 #[.slice A n c]) := ⟨_, rfl, (Below.refl _ _).alloc (Nat.le_refl _) _, Blk.new _ _ _⟩
  have HR := Lib.hid (hR.below HB1.out).lt
  have HV := Lib.hid hv
  have HN := Lib.hid hn
  have hmk := make_any A c l w1 HR.out (by omega)
  rw [← hn] at hmk
  have HMK := Lib.hid hmk
  clear hR hv hn hmk
  go_enter Try.func51, Try.ntmps51
  go_wp2_with fail
  rw [← h1]
  clear h1
  refine HMK.out.mono ?_
  rintro e w2 ⟨A2, c2, m, rfl, hc, hh, hr, hb⟩
  have hml := can_len hc
  have HEQ : Hid (v = true ↔ l = m) := by
    show _ ↔ _
    rw [HV.out]
    exact (can_iff hc hh).symm
  obtain ⟨n2, hn2⟩ : ∃ n2, n2 = m.length := ⟨_, rfl⟩
  rw [← hn2]
  rw [← hn2] at hml
  obtain ⟨w3, h3, HB3, HX3, HY3, HR3, HM3⟩ : ∃ w3, w3 = w2.alloc (.cells #[.slice A2 n2 c2] 45) ∧ Hid (Below w.heap.size w w3) ∧ Hid (Blk w3 w.heap.size 45 #[.slice A n c]) ∧ Hid (Blk w3 w2.heap.size 45 #[.slice A2 n2 c2]) ∧ Hid (Row w3 w3.heap.size A (rgs l)) ∧ Hid (Row w3 w3.heap.size A2 (rgs m)) := by
    have hb2 := HB1.out.trans (hb.mono HB1.out.size)
    have hb3 : Below w2.heap.size w2 (w2.alloc (.cells #[.slice A2 n2 c2] 45)) := (Below.refl _ _).alloc (Nat.le_refl _) _
    exact ⟨_, rfl, hb2.trans (hb3.mono hb2.size), (HX1.out.after hb).after hb3, Blk.new _ _ _, ((HR.out.below hb).lt.below hb3).lt, (hr.below hb3).lt⟩
  have hsw : w.heap.size < w2.heap.size := by have := HX1.out.lt; have := hb.size; omega
  have e0 := (HX1.out.after hb).cell 0
  simp at e0
  have HN2 := Lib.hid hn2
  clear hc hh hr hb hn2
  by_cases hl : n2 = n
  · subst hl
    go_wp2_with fail
    rw [← h3]
    clear h3 e0
    go_loopw [19] (fun i wr => ∃ k : Nat, k ≤ n2 ∧ i = .int .i64 (k : Int) ∧ Hid (∀ j : Nat, j < k → l[j]? = m[j]?) ∧ Hid (Below w3.heap.size w3 wr)) (fun i _ => n2 - (intOf i).toNat)
    case atStart => exact ⟨0, by omega, rfl, fun j hj => by omega, Below.refl _ _⟩
    case round =>
      obtain ⟨k, hk, rfl, HK, HB⟩ := hrel
      have e1 := (HX3.out.after HB.out).cell 0
      have e2 := (HX3.out.after HB.out).lt
      simp at e1
      by_cases h1 : k < n2
      · obtain ⟨b, o, lo, hi, rfl, hb, hx, c1, c2'⟩ := at_rg (HR3.out.below HB.out) (show k < l.length by have := HN.out; omega)
        obtain ⟨b', o', lo', hi', rfl, hb', hx', c3, c4⟩ := at_rg (HM3.out.below HB.out) (show k < m.length by have := HN2.out; omega)
        have hsz := HB.out.size
        have qG := rg_guard
        have hbl : b < wr.heap.size := by omega
        by_cases h2 : lo' = lo ∧ hi' = hi
        · have qN : ∀ w, (binOp .neq 71 (.agg #[.int .i64 lo', .int .i64 hi']) (.agg #[.int .i64 lo, .int .i64 hi])).run Try.prog w = .ok (.bool false) w := fun w => run_neq_rg w lo' hi' lo hi false (by simp [h2.1, h2.2])
          have HK' : Hid (∀ j : Nat, j < k + 1 → l[j]? = m[j]?) := by
            intro j hj
            by_cases e : j = k
            · subst e
              rw [hx.out, hx'.out, h2.1, h2.2]
            · exact HK.out j (by omega)
          clear h2
          go_wp2
          go_quiet (fail)
          go_wp2
          go_roundw
          case rel => exact ⟨k + 1, by omega, by go_num, HK', below_drewN (HB.out.alloc hsz _) _⟩
          case measure => simp [intOf]; omega
        · have qN : ∀ w, (binOp .neq 71 (.agg #[.int .i64 lo', .int .i64 hi']) (.agg #[.int .i64 lo, .int .i64 hi])).run Try.prog w = .ok (.bool true) w := fun w => run_neq_rg w lo' hi' lo hi true (by
            by_cases e : lo' = lo
            · have : ¬ hi' = hi := fun h => h2 ⟨e, h⟩
              simp [this]
            · simp [e])
          have HF : Hid (v = false) := by
            show _ = _
            rw [Bool.eq_false_iff]
            intro h
            have := HEQ.out.1 h
            subst this
            have := hx'.out.symm.trans hx.out
            simp at this
            exact h2 this
          clear h2
          go_wp2
          go_quiet (fail)
          go_wp2
          go_ret
          exact ⟨ret_bool HF.out.symm, below_drewN (HB3.out.trans ((HB.out.alloc hsz _).mono HB3.out.size)) _⟩
      · have HF : Hid (v = true) := by
          show _ = _
          refine HEQ.out.2 (List.ext_getElem? fun j => ?_)
          by_cases hj : j < k
          · exact HK.out j hj
          · rw [List.getElem?_eq_none (by have := HN.out; omega), List.getElem?_eq_none (by have := HN2.out; omega)]
        go_wp2
        go_ret
        exact ⟨ret_bool HF.out.symm, HB3.out.trans (HB.out.mono HB3.out.size)⟩
  · have HF : Hid (v = false) := by
      show _ = _
      rw [Bool.eq_false_iff]
      intro h
      exact hl (by rw [HN.out, HN2.out, HEQ.out.1 h])
    go_wp2
    go_ret
    refine ⟨ret_bool HF.out.symm, ?_⟩
    rw [← h3]
    exact HB3.out
end Go.Proofs.Ytjohoohdjlajcaa
