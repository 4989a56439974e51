/-
  seqpool.Valid, copied, appended, sequence; ref14.Valid, Small: walks, for any pool.
-/
import Derived.Test.YteobffcnfigilaaProg
import Derived.Test.YteobffcnfigilaaBase
import Derived.Test.YteobffcnfigilaaApp
import Derived.Test.YteobffcnfigilaaSp0
import Derived.WalkKit
import Derived.Deep.QuietTactic
import Derived.BigQuiet
import Derived.KernelRfl
import Derived.Outline
import Derived.IntWalk
namespace Go.Proofs.Yteobffcnfigilaa
open Go.RowKit Go.UtYteobffcnfigilaa
attribute [local go_sem high] cut_l cut_lh cut_lhm cutA_zero
attribute [local go_sem 500] cut_any
theorem int_info : (Try.prog.info? 3).map (fun i => (i.zero, i.size, i.bytes)) = some (some (.int .i64 0), 1, 8) := by kernel_rfl
theorem int_size : (Try.prog.info? 3).map (·.size) = some 1 := by kernel_rfl
theorem getD_of {xs : List Int} {k : Nat} {x : Int} (h : xs[k]? = some x) : xs.getD k 0 = x := by simp [List.getD, h]
theorem okJ_yes {n : Nat} {s l : Int} (h : okJ n s l = true) : 0 ≤ s ∧ 0 ≤ l ∧ s + l ≤ n := of_decide_eq_true h
theorem okJ_no {n : Nat} {s l : Int} (h : okJ n s l = false) : ¬ (0 ≤ s ∧ 0 ≤ l ∧ s + l ≤ n) := of_decide_eq_false h
set_option maxHeartbeats 1000000 in
theorem valid_any (C S L : Option Addr) (cC cS cL nC B : Nat) (ss ls : List Int) (w : World) (hS : Row w B S (ints ss)) (hL : Row w B L (ints ls)) (hB : B ≤ w.heap.size) (lc : nC ≤ 9000000000000000000) (l1 : ss.length ≤ maxLen) (l2 : ls.length ≤ maxLen) (v : Bool) (hv : vldP nC ss ls = v) :
    Calls Try.prog 24 #[.agg #[.slice C nC cC, .slice S ss.length cS, .slice L ls.length cL]] w fun e w' => e = .returned (.bool v) ∧ Below w.heap.size w w' := by
  have HV := Lib.hid hv
  unfold maxLen at l1 l2
  have HB0 : Hid (Below w.heap.size w (w.alloc (.cells #[.slice C nC cC, .slice S ss.length cS, .slice L ls.length cL] 27))) := (Below.refl _ _).alloc (Nat.le_refl _) _
  have HS := Lib.hid (hS.below (HB0.out.mono hB))
  have HL := Lib.hid (hL.below (HB0.out.mono hB))
  clear hS hL hv
  by_cases h0 : ss.length = ls.length
  · have hq : ((ss.length : Int) != (ls.length : Int)) = false := by simp [h0]
    have HQ := Lib.hid h0
    have hle : ss.length ≤ ls.length := by omega
    clear h0
    go_enter Try.func24, Try.ntmps24
    go_wp2
    go_loop [16] (fun i => ∃ k : Nat, k ≤ ss.length ∧ i = .int .i64 k ∧ Hid (∀ j, j < k → okJ nC (ss.getD j 0) (ls.getD j 0) = true)) (fun i => ss.length - (intOf i).toNat)
    case atStart => exact ⟨0, by omega, rfl, fun j hj => by omega⟩
    case round =>
      obtain ⟨k, hk, rfl, HK⟩ := hrel
      by_cases h1 : k < ss.length
      · obtain ⟨b, o, x, rfl, hb, hx, hc⟩ := HS.out.at_int h1
        obtain ⟨b', o', y, rfl, hb', hy, hc'⟩ := HL.out.at_int (show k < ls.length by omega)
        have hbl : b < w.heap.size := by omega
        have hbl' : b' < w.heap.size := by omega
        cases ho : okJ nC x y with
        | false =>
          have HF : Hid (v = false) := HV.out.symm.trans (vldP_bad k h1 (by rw [getD_of hx.out, getD_of hy.out]; exact ho))
          have hn := okJ_no ho
          clear ho
          go_wp2
          all_goals first
            | (go_ret; exact ⟨ret_bool HF.out.symm, HB0.out⟩)
            | (exfalso; omega)
        | true =>
          have hn := okJ_yes ho
          have HM : Hid (∀ j, j < k + 1 → okJ nC (ss.getD j 0) (ls.getD j 0) = true) := fun j hj => by
            rcases Nat.lt_succ_iff_lt_or_eq.1 hj with h | rfl
            · exact HK.out j h
            · rw [getD_of hx.out, getD_of hy.out]; exact ho
          clear ho
          obtain ⟨n1, n2, n3⟩ := hn
          go_wp2
          all_goals first
            | (exfalso; omega)
            | (refine ⟨⟨k + 1, by omega, by go_num, HM⟩, ?_⟩
               simp [intOf]
               omega)
      · have HF : Hid (v = true) := HV.out.symm.trans ((vldP_iff _ _ _).2 ⟨HQ.out, fun j hj => HK.out j (by omega)⟩)
        go_wp2
        go_ret
        exact ⟨ret_bool HF.out.symm, HB0.out⟩
  · have hq : ((ss.length : Int) != (ls.length : Int)) = true := by simp; omega
    have HF : Hid (v = false) := HV.out.symm.trans (vldP_len h0)
    clear h0
    go_enter Try.func24, Try.ntmps24
    go_wp2
    go_ret
    exact ⟨ret_bool HF.out.symm, HB0.out⟩
set_option maxHeartbeats 2000000 in
theorem valid2_any (C S L : Option Addr) (cC cS cL nC B : Nat) (ss ls : List Int) (w : World) (hS : Row w B S (ints ss)) (hL : Row w B L (ints ls)) (hB : B ≤ w.heap.size) (lc : nC ≤ 9000000000000000000) (l1 : ss.length ≤ maxLen) (l2 : ls.length ≤ maxLen) (v : Bool) (hv : vldP nC ss ls = v) :
    Calls Try.prog 25 #[.agg #[.slice C nC cC, .slice S ss.length cS, .slice L ls.length cL]] w fun e w' => e = .returned (.bool v) ∧ Below w.heap.size w w' := by
  have HV := Lib.hid hv
  unfold maxLen at l1 l2
  have HB0 : Hid (Below w.heap.size w (w.alloc (.cells #[.slice C nC cC, .slice S ss.length cS, .slice L ls.length cL] 27))) := (Below.refl _ _).alloc (Nat.le_refl _) _
  have HS := Lib.hid hS
  have HL := Lib.hid hL
  clear hS hL hv
  by_cases h0 : ss.length = ls.length
  · have hq : ((ss.length : Int) != (ls.length : Int)) = false := by simp [h0]
    have HQ := Lib.hid h0
    have hle : ss.length ≤ ls.length := by omega
    clear h0
    go_enter Try.func25, Try.ntmps25
    go_wp2
    go_loopw [3] (fun i wr => ∃ k : Nat, k ≤ ss.length ∧ i = .int .i64 k ∧ Hid (∀ j, j < k → okJ nC (ss.getD j 0) (ls.getD j 0) = true) ∧ Hid (Blk wr w.heap.size 27 #[.slice C nC cC, .slice S ss.length cS, .slice L ls.length cL]) ∧ Hid (Below w.heap.size w wr)) (fun i _ => ss.length - (intOf i).toNat)
    case atStart => exact ⟨0, by omega, rfl, fun j hj => by omega, Blk.new _ _ _, HB0⟩
    case round =>
      obtain ⟨k, hk, rfl, HK, HX, HBr⟩ := hrel
      obtain ⟨e0, e1, e2⟩ := HX.out.cells3
      have hlt := HX.out.lt
      by_cases h1 : k < ss.length
      · obtain ⟨b, o, x, rfl, hb, hx, hc⟩ := (HS.out.below (HBr.out.mono hB)).at_int h1
        obtain ⟨b', o', y, rfl, hb', hy, hc'⟩ := (HL.out.below (HBr.out.mono hB)).at_int (show k < ls.length by omega)
        have hbl : b < w.heap.size := by omega
        have hbl' : b' < w.heap.size := by omega
        cases ho : okJ nC x y with
        | false =>
          have HF : Hid (v = false) := HV.out.symm.trans (vldP_bad k h1 (by rw [getD_of hx.out, getD_of hy.out]; exact ho))
          have hn := okJ_no ho
          clear ho
          by_cases c1 : x < 0
          · have d1 : decide (x < 0) = true := by simpa using c1
            go_wp2
            go_quiet (fail)
            go_wp2
            go_ret
            exact ⟨ret_bool HF.out.symm, below_drewN HBr.out _⟩
          · have d1 : decide (x < 0) = false := by simpa using c1
            by_cases c2 : y < 0
            · have d2 : decide (y < 0) = true := by simpa using c2
              go_wp2
              go_quiet (fail)
              go_wp2
              go_ret
              exact ⟨ret_bool HF.out.symm, below_drewN HBr.out _⟩
            · have d2 : decide (y < 0) = false := by simpa using c2
              by_cases c3 : (nC : Int) < y
              · have d3 : decide ((nC : Int) < y) = true := by simpa using c3
                go_wp2
                go_quiet (fail)
                go_wp2
                go_ret
                exact ⟨ret_bool HF.out.symm, below_drewN HBr.out _⟩
              · have d3 : decide ((nC : Int) < y) = false := by simpa using c3
                have k4 : IntKind.i64.wrap ((nC : Int) - y) = (nC : Int) - y := IntWalk.i64_in _ (by omega)
                have d4 : decide ((nC : Int) - y < x) = true := by simp; omega
                go_wp2
                go_quiet (fail)
                go_wp2
                go_ret
                exact ⟨ret_bool HF.out.symm, below_drewN HBr.out _⟩
        | true =>
          have hn := okJ_yes ho
          have HM : Hid (∀ j, j < k + 1 → okJ nC (ss.getD j 0) (ls.getD j 0) = true) := fun j hj => by
            rcases Nat.lt_succ_iff_lt_or_eq.1 hj with h | rfl
            · exact HK.out j h
            · rw [getD_of hx.out, getD_of hy.out]; exact ho
          clear ho
          obtain ⟨n1, n2, n3⟩ := hn
          have d1 : decide (x < 0) = false := by simp; omega
          have d2 : decide (y < 0) = false := by simp; omega
          have d3 : decide ((nC : Int) < y) = false := by simp; omega
          have k4 : IntKind.i64.wrap ((nC : Int) - y) = (nC : Int) - y := IntWalk.i64_in _ (by omega)
          have d4 : decide ((nC : Int) - y < x) = false := by simp; omega
          go_wp2
          go_quiet (fail)
          go_wp2
          go_roundw
          case rel => exact ⟨k + 1, by omega, by go_num, HM, HX.out.drewN _, below_drewN HBr.out _⟩
          case measure => simp [intOf]; omega
      · have HF : Hid (v = true) := HV.out.symm.trans ((vldP_iff _ _ _).2 ⟨HQ.out, fun j hj => HK.out j (by omega)⟩)
        go_wp2
        go_ret
        exact ⟨ret_bool HF.out.symm, HBr.out⟩
  · have hq : ((ss.length : Int) != (ls.length : Int)) = true := by simp; omega
    have HF : Hid (v = false) := HV.out.symm.trans (vldP_len h0)
    clear h0
    go_enter Try.func25, Try.ntmps25
    go_wp2
    go_ret
    exact ⟨ret_bool HF.out.symm, HB0.out⟩
end Go.Proofs.Yteobffcnfigilaa
