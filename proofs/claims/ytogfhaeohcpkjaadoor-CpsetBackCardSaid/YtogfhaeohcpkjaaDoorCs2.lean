/-
  Ranges in memory; cpset.Has, ref02.Has, Small: walks.
-/
import Derived.Test.YtogfhaeohcpkjaaDoorProg
import Derived.Test.YtogfhaeohcpkjaaDoorBase
import Derived.Test.YtogfhaeohcpkjaaDoorApp
import Derived.Test.YtogfhaeohcpkjaaDoorCs1
import Derived.Test.YtogfhaeohcpkjaaDoorCp1
import Derived.WalkKit
import Derived.Deep.QuietTactic
import Derived.BigQuiet
import Derived.KernelRfl
import Derived.Laws.StructEq
import Derived.Outline
import Derived.IntWalk
namespace Go.Proofs.YtogfhaeohcpkjaaDoor
open Go.RowKit Go.UtYtogfhaeohcpkjaaDoor
def rgs (l : List Rg) : List Value := l.flatMap fun r => [.int .i64 r.1, .int .i64 r.2]
theorem rgs_len (l : List Rg) : (rgs l).length = l.length * 2 := by
  induction l with
  | nil => rfl
  | cons r l ih => simp only [rgs, List.flatMap_cons, List.length_append, List.length_cons, List.length_nil] at ih ⊢; omega
theorem rgs_append (a b : List Rg) : rgs (a ++ b) = rgs a ++ rgs b := by simp [rgs]
theorem rgs_get {l : List Rg} {k : Nat} {r : Rg} (h : l[k]? = some r) : (rgs l)[k * 2]? = some (.int .i64 r.1) ∧ (rgs l)[k * 2 + 1]? = some (.int .i64 r.2) := by
  induction l generalizing k with
  | nil => simp at h
  | cons s l ih =>
    cases k with
    | zero =>
      simp at h
      subst h
      simp [rgs]
    | succ k =>
      simp at h
      obtain ⟨h1, h2⟩ := ih h
      have e : rgs (s :: l) = .int .i64 s.1 :: .int .i64 s.2 :: rgs l := by simp [rgs]
      rw [e, show (k + 1) * 2 = k * 2 + 1 + 1 by omega]
      exact ⟨h1, h2⟩
theorem rgs_one (l : List Rg) : ∀ u ∈ rgs l, u.oneCell' = true := by
  intro u hu
  obtain ⟨r, _, hu⟩ := List.mem_flatMap.1 hu
  simp at hu
  rcases hu with rfl | rfl <;> rfl
theorem at_rg {w : World} {B : Nat} {A : Option Addr} {l : List Rg} (h : Row w B A (rgs l)) {k : Nat} (hk : k < l.length) : ∃ b o x y, A = some ⟨b, o, none⟩ ∧ b < B ∧ Hid (l[k]? = some (x, y)) ∧ w.cell? ⟨b, o + k * 2, none⟩ = some (.int .i64 x) ∧ w.cell? ⟨b, o + k * 2 + 1, none⟩ = some (.int .i64 y) := by
  have e : l[k]? = some l[k] := List.getElem?_eq_getElem hk
  obtain ⟨g1, g2⟩ := rgs_get e
  obtain ⟨b, o, hA, hb, hc⟩ := h (fun e => by have := rgs_len l; rw [e] at this; simp at this; omega)
  refine ⟨b, o, l[k].1, l[k].2, hA, hb, e, hc _ _ g1, ?_⟩
  have := hc _ _ g2
  rwa [Nat.add_assoc]
theorem rg_info : (Tryd.prog.info? 37).map (fun i => (i.zero, i.size, i.bytes)) = some (some (.agg #[.int .i64 0, .int .i64 0]), 2, 16) := by kernel_rfl
theorem rg_held : Tryd.prog.stoodInHeld 37 = false := by kernel_rfl
theorem rg_guard : Tryd.prog.eqGuardType Tryd.prog.depth 37 = false := by kernel_rfl
theorem run_neq_rg (w : World) (a b c d : Int) (v : Bool) (hv : (!(a == c && b == d)) = v) : (binOp .neq 37 (.agg #[.int .i64 a, .int .i64 b]) (.agg #[.int .i64 c, .int .i64 d])).run Tryd.prog w = .ok (.bool v) w := by
  have h1 : (Tryd.prog.fieldsOf 37).toList = [⟨ "Lo", 3, 0, false, "", "", 0⟩, ⟨ "Hi", 3, 1, false, "", "", 8⟩] := by kernel_rfl
  rw [run_neq_struct, run_equalIn_agg w _ _ _ _ (by kernel_rfl) rg_held, h1]
  subst hv
  simp [go_sem]
  by_cases h : a = c <;> by_cases h' : b = d <;> simp [h, h']
theorem small_any (A : Option Addr) (n c : Nat) (w : World) (v : Bool) (hv : decide ((n : Int) ≤ 12) = v) :
    Calls Tryd.prog 20 #[.agg #[.slice A n c]] w fun e w' => e = .returned (.bool v) ∧ Below w.heap.size w w' := by
  have HV := Lib.hid hv
  clear hv
  go_enter Tryd.func20, Tryd.ntmps20
  go_wp2
  go_ret
  exact ⟨ret_bool HV.out, (Below.refl _ _).alloc (Nat.le_refl _) _⟩
set_option maxRecDepth 100000 in
set_option maxHeartbeats 1000000 in
theorem has_any (A : Option Addr) (c : Nat) (l : List Rg) (x : Int) (w : World) (hR : Row w w.heap.size A (rgs l)) (hm : l.length ≤ maxLen) (v : Bool) (hv : decide (hasP l x) = v) :
    Calls Tryd.prog 15 #[.agg #[.slice A l.length c], .int .i64 x] w fun e w' => e = .returned (.bool v) ∧ Below w.heap.size w w' := by
  have HV := Lib.hid hv
  have HB0 : Hid (Below w.heap.size w (w.alloc (.cells #[.slice A l.length c] 24))) := (Below.refl _ _).alloc (Nat.le_refl _) _
  have HR := Lib.hid hR
  unfold maxLen at hm
  clear hv hR
  cases hc : vldB x with
  | false =>
    have HC := Lib.hid hc
    have HF : Hid (v = false) := by
      show _ = _
      rw [← HV.out]
      exact decide_eq_false (fun h => vld_off hc h.1)
    clear hc
    go_enter Tryd.func15, Tryd.ntmps15
    go_wp2_with (first | (go_at_call 41; refine (valid_any _ _ _ HC.out).mono ?_; rintro e w' ⟨rfl, rfl⟩))
    go_ret
    exact ⟨ret_bool HF.out.symm, HB0.out⟩
  | true =>
    have HC := Lib.hid hc
    have hcode := vld_of hc
    clear hc
    go_enter Tryd.func15, Tryd.ntmps15
    go_wp2_with (first | (go_at_call 41; refine (valid_any _ _ _ HC.out).mono ?_; rintro e w' ⟨rfl, rfl⟩))
    go_loopw [13] (fun i wr => ∃ k : Nat, k ≤ l.length ∧ i = .int .i64 (k : Int) ∧ Hid (∀ j r, j < k → l[j]? = some r → ¬ (r.1 ≤ x ∧ x ≤ r.2)) ∧ Hid (Below w.heap.size w wr)) (fun i _ => l.length - (intOf i).toNat)
    case atStart => exact ⟨0, by omega, rfl, fun j r hj => by omega, HB0⟩
    case round =>
      obtain ⟨k, hk, rfl, HK, HB⟩ := hrel
      by_cases h1 : k < l.length
      · obtain ⟨b, o, lo, hi, rfl, hb, hx, c1, c2⟩ := at_rg (HR.out.below HB.out) h1
        have hsz := HB.out.size
        by_cases h2 : lo ≤ x ∧ x ≤ hi
        · have HF : Hid (v = true) := by
            show _ = _
            rw [← HV.out]
            exact decide_eq_true ⟨hcode, (lo, hi), List.mem_of_getElem? hx.out, h2⟩
          obtain ⟨h2, h3⟩ := h2
          go_wp2
          go_ret
          exact ⟨ret_bool HF.out.symm, HB.out.alloc hsz _⟩
        · have HK' : Hid (∀ j r, j < k + 1 → l[j]? = some r → ¬ (r.1 ≤ x ∧ x ≤ r.2)) := by
            intro j r hj hr
            by_cases e : j = k
            · subst e
              rw [hx.out] at hr
              cases hr
              exact h2
            · exact HK.out j r (by omega) hr
          by_cases h3 : lo ≤ x
          · have h4 : ¬ x ≤ hi := fun h => h2 ⟨h3, h⟩
            clear h2
            go_wp2
            go_roundw
            case rel => exact ⟨k+1, by omega, by go_num, HK', HB.out.alloc hsz _⟩
            case measure => simp [intOf]; omega
          · clear h2
            go_wp2
            go_roundw
            case rel => exact ⟨k+1, by omega, by go_num, HK', HB.out.alloc hsz _⟩
            case measure => simp [intOf]; omega
      · have HF : Hid (v = false) := by
          show _ = _
          rw [← HV.out]
          refine decide_eq_false ?_
          rintro ⟨-, r, hr, h⟩
          obtain ⟨j, hj, e⟩ := List.getElem_of_mem hr
          exact HK.out j r (by omega) (e ▸ List.getElem?_eq_getElem hj) h
        go_wp2
        go_ret
        exact ⟨ret_bool HF.out.symm, HB.out⟩
end Go.Proofs.YtogfhaeohcpkjaaDoor
