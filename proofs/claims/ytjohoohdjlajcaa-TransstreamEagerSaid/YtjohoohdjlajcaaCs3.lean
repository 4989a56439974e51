/-
  ref02.Has, ref02.Same: walks.
-/
import Derived.Test.YtjohoohdjlajcaaProg
import Derived.Test.YtjohoohdjlajcaaBase
import Derived.Test.YtjohoohdjlajcaaCs2
import Derived.WalkKit
import Derived.Deep.QuietTactic
import Derived.BigQuiet
import Derived.KernelRfl
import Derived.Outline
import Derived.IntWalk
namespace Go.Proofs.Ytjohoohdjlajcaa
open Go.RowKit Go.UtYtjohoohdjlajcaa
set_option maxRecDepth 100000 in
set_option maxHeartbeats 1000000 in
theorem has2_any (A : Option Addr) (c : Nat) (l : List Rg) (x : Int) (w : World) (hR : Row w w.heap.size A (rgs l)) (hm : l.length ≤ maxLen) (v : Bool) (hv : decide (hasP l x) = v) :
    Calls Try.prog 18 #[.agg #[.slice A l.length c], .int .i64 x] w fun e w' => e = .returned (.bool v) ∧ Below w.heap.size w w' := by
  have HV := Lib.hid hv
  have HB0 : Hid (Below w.heap.size w (w.alloc (.cells #[.slice A l.length c] 45))) := (Below.refl _ _).alloc (Nat.le_refl _) _
  have HR := Lib.hid (hR.below HB0.out)
  unfold maxLen at hm
  clear hv hR
  go_enter Try.func18, Try.ntmps18
  go_wp2
  go_loopw [5] (fun i wr => ∃ k : Nat, k ≤ l.length ∧ i = .int .i64 (k : Int) ∧ Hid (∀ j r, j < k → l[j]? = some r → ¬ (vldB x = true ∧ r.1 ≤ x ∧ x ≤ r.2)) ∧ wr = w.alloc (.cells #[.slice A l.length c] 45)) (fun i _ => l.length - (intOf i).toNat)
  case atStart => exact ⟨0, by omega, rfl, fun j r hj => by omega, rfl⟩
  case round =>
    obtain ⟨k, hk, rfl, HK, rfl⟩ := hrel
    by_cases h1 : k < l.length
    · obtain ⟨b, o, lo, hi, rfl, hb, hx, c1, c2⟩ := at_rg HR.out h1
      have HK' : Hid (¬ (vldB x = true ∧ lo ≤ x ∧ x ≤ hi) → ∀ j r, j < k + 1 → l[j]? = some r → ¬ (vldB x = true ∧ r.1 ≤ x ∧ x ≤ r.2)) := by
        intro h2 j r hj hr
        by_cases e : j = k
        · subst e
          rw [hx.out] at hr
          cases hr
          exact h2
        · exact HK.out j r (by omega) hr
      rcases (show vldB x = false ∨ vldB x = true by cases vldB x <;> simp) with hc | hc
      · have HC := Lib.hid hc
        clear hc
        go_wp2_with (first | (go_at_call 37; refine (valid2_any _ _ _ HC.out).mono ?_; rintro e w' ⟨rfl, rfl⟩))
        go_roundw
        case rel => exact ⟨k+1, by omega, by go_num, HK'.out (fun h => by have := HC.out; rw [h.1] at this; cases this), by trivial⟩
        case measure => simp [intOf]; omega
      · have HC := Lib.hid hc
        clear hc
        by_cases h2 : lo ≤ x
        · by_cases h3 : x ≤ hi
          · have HF : Hid (v = true) := by
              show _ = _
              rw [← HV.out]
              exact decide_eq_true ⟨vld_of HC.out, (lo, hi), List.mem_of_getElem? hx.out, h2, h3⟩
            go_wp2_with (first | (go_at_call 37; refine (valid2_any _ _ _ HC.out).mono ?_; rintro e w' ⟨rfl, rfl⟩))
            go_ret
            exact ⟨ret_bool HF.out.symm, HB0.out⟩
          · go_wp2_with (first | (go_at_call 37; refine (valid2_any _ _ _ HC.out).mono ?_; rintro e w' ⟨rfl, rfl⟩))
            go_roundw
            case rel => exact ⟨k+1, by omega, by go_num, HK'.out (fun h => Int.not_le.2 h3 h.2.2), by trivial⟩
            case measure => simp [intOf]; omega
        · go_wp2_with (first | (go_at_call 37; refine (valid2_any _ _ _ HC.out).mono ?_; rintro e w' ⟨rfl, rfl⟩))
          go_roundw
          case rel => exact ⟨k+1, by omega, by go_num, HK'.out (fun h => Int.not_le.2 h2 h.2.1), by trivial⟩
          case measure => simp [intOf]; omega
    · have HF : Hid (v = false) := by
        show _ = _
        rw [← HV.out]
        refine decide_eq_false ?_
        rintro ⟨hc, r, hr, h⟩
        obtain ⟨j, hj, e⟩ := List.getElem_of_mem hr
        exact HK.out j r (by omega) (e ▸ List.getElem?_eq_getElem hj) ⟨decide_eq_true hc, h⟩
      go_wp2
      go_ret
      exact ⟨ret_bool HF.out.symm, HB0.out⟩
set_option maxRecDepth 100000 in
set_option maxHeartbeats 1000000 in
theorem same_any (A A2 : Option Addr) (c c2 n n2 : Nat) (l m : List Rg) (hn : n = l.length) (hn2 : n2 = m.length) (w : World) (hR : Row w w.heap.size A (rgs l)) (hR2 : Row w w.heap.size A2 (rgs m)) (hm : n ≤ maxLen) (hm2 : n2 ≤ maxLen) (v : Bool) (hv : decide (l = m) = v) :
    Calls Try.prog 67 #[.agg #[.slice A n c], .agg #[.slice A2 n2 c2]] w fun e w' => e = .returned (.bool v) ∧ Below w.heap.size w w' := by
  have HV := Lib.hid hv
  have HB0 : Hid (Below w.heap.size w ((w.alloc (.cells #[.slice A n c] 45)).alloc (.cells #[.slice A2 n2 c2] 45))) := ((Below.refl _ _).alloc (Nat.le_refl _) _).alloc (by simp) _
  have HR := Lib.hid hR
  have HR2 := Lib.hid hR2
  have HN := Lib.hid hn
  have HN2 := Lib.hid hn2
  unfold maxLen at hm hm2
  clear hv hR hR2 hn hn2
  by_cases hl : n = n2
  · have HC0 : Hid (((w.alloc (.cells #[.slice A n c] 45)).alloc (.cells #[.slice A2 n2 c2] 45)).cell? ⟨w.heap.size, 0, none⟩ = some (.slice A n c)) := (((Blk.new w 45 #[.slice A n c]).alloc (.cells #[.slice A2 n2 c2] 45)).cell 0)
    have HC1 : Hid (((w.alloc (.cells #[.slice A n c] 45)).alloc (.cells #[.slice A2 n2 c2] 45)).cell? ⟨w.heap.size + 1, 0, none⟩ = some (.slice A2 n2 c2)) := by
      show _ = _
      simp
    subst hl
    go_enter Try.func67, Try.ntmps67
    go_wp2
    go_loopw [5] (fun i wr => ∃ k : Nat, k ≤ n ∧ i = .int .i64 (k : Int) ∧ Hid (∀ j : Nat, j < k → l[j]? = m[j]?) ∧ Hid (Below w.heap.size w wr) ∧ wr.cell? ⟨w.heap.size, 0, none⟩ = some (.slice A n c) ∧ wr.cell? ⟨w.heap.size + 1, 0, none⟩ = some (.slice A2 n c2)) (fun i _ => n - (intOf i).toNat)
    case atStart => exact ⟨0, by omega, rfl, fun j hj => by omega, HB0, HC0.out, HC1.out⟩
    case round =>
      obtain ⟨k, hk, rfl, HK, HB, q1, q2⟩ := hrel
      by_cases h1 : k < n
      · obtain ⟨b, o, lo, hi, rfl, hb, hx, c1, c2⟩ := at_rg (HR.out.below HB.out) (show k < l.length by have := HN.out; omega)
        obtain ⟨b', o', lo', hi', rfl, hb', hx', c1', c2'⟩ := at_rg (HR2.out.below HB.out) (show k < m.length by have := HN2.out; omega)
        have qG := rg_guard
        by_cases h2 : lo = lo' ∧ hi = hi'
        · have qN : ∀ w, (binOp .neq 71 (.agg #[.int .i64 lo, .int .i64 hi]) (.agg #[.int .i64 lo', .int .i64 hi'])).run Try.prog w = .ok (.bool false) w := fun w => run_neq_rg w lo hi lo' hi' false (by simp [h2.1, h2.2])
          have HK' : Hid (∀ j : Nat, j < k + 1 → l[j]? = m[j]?) := by
            intro j hj
            by_cases e : j = k
            · subst e
              rw [hx.out, hx'.out, h2.1, h2.2]
            · exact HK.out j (by omega)
          clear h2
          go_wp2
          go_quiet (fail)
          go_wp2
          go_roundw
          case rel => exact ⟨k+1, by omega, by go_num, HK', below_drewN HB.out _, q1, q2⟩
          case measure => simp [intOf]; omega
        · have qN : ∀ w, (binOp .neq 71 (.agg #[.int .i64 lo, .int .i64 hi]) (.agg #[.int .i64 lo', .int .i64 hi'])).run Try.prog w = .ok (.bool true) w := fun w => run_neq_rg w lo hi lo' hi' true (by
            by_cases e : lo = lo'
            · have : ¬ hi = hi' := fun h => h2 ⟨e, h⟩
              simp [this]
            · simp [e])
          have HF : Hid (v = false) := by
            show _ = _
            rw [← HV.out]
            refine decide_eq_false (fun h => ?_)
            subst h
            have := hx.out.symm.trans hx'.out
            simp at this
            exact h2 this
          clear h2
          go_wp2
          go_quiet (fail)
          go_wp2
          go_ret
          exact ⟨ret_bool HF.out.symm, below_drewN HB.out _⟩
      · have HF : Hid (v = true) := by
          show _ = _
          rw [← HV.out]
          refine decide_eq_true (List.ext_getElem? fun j => ?_)
          by_cases hj : j < k
          · exact HK.out j hj
          · rw [List.getElem?_eq_none (by have := HN.out; omega), List.getElem?_eq_none (by have := HN2.out; omega)]
        go_wp2
        go_ret
        exact ⟨ret_bool HF.out.symm, HB.out⟩
  · have HF : Hid (v = false) := by
      show _ = _
      rw [← HV.out]
      exact decide_eq_false (fun h => hl (by rw [HN.out, HN2.out, h]))
    go_enter Try.func67, Try.ntmps67
    go_wp2
    go_ret
    exact ⟨ret_bool HF.out.symm, HB0.out⟩
end Go.Proofs.Ytjohoohdjlajcaa
