/-
  ref53.Same, edits.Shift, few: walks.
-/
import Derived.Test.YtmiebgejmiadlaaProg
import Derived.Test.YtmiebgejmiadlaaBase
import Derived.Test.YtmiebgejmiadlaaRef1
import Derived.Test.YtmiebgejmiadlaaEd1
import Derived.Test.YtmiebgejmiadlaaEd2
import Derived.Test.YtmiebgejmiadlaaEd3
import Derived.Test.YtmiebgejmiadlaaEd4
import Derived.WalkKit
import Derived.Deep.RegionHeld3
import Derived.Outline
namespace Go.Proofs.Ytmiebgejmiadlaa
open Go.RowKit Go.UtYtmiebgejmiadlaa
attribute [local go_sem high] cut_l cut_lh cut_lhm cutA_zero
attribute [local go_sem 500] cut_any
theorem few_any (A : Option Addr) (n c : Nat) (w : World) (v : Bool) (hv : decide ((n : Int) ≤ 60) = v) :
    Calls Try.prog 16 #[.slice A n c] w fun e w' => e = .returned (.bool v) ∧ w = w' := by
  have HV := Lib.hid hv
  clear hv
  go_enter Try.func16, Try.ntmps16
  go_wp2
  go_ret
  exact ⟨ret_bool HV.out, rfl⟩
/-- Same, where the numbers differ -/
theorem same_no (x y u v : Int) (A F : Option Addr) (n c m fc : Nat) (w : World) (h : x ≠ u ∨ y ≠ v) :
    Calls Try.prog 17 #[.agg #[.int .i64 x, .int .i64 y, .slice A n c], .agg #[.int .i64 u, .int .i64 v, .slice F m fc]] w fun e w' => e = .returned (.bool false) ∧ Below w.heap.size w w' := by
  by_cases h1 : x = u
  · have h2 : y ≠ v := h.resolve_left (fun e => e h1)
    subst h1
    have h3 : (y == v) = false := by simpa using h2
    clear h h2
    go_enter Try.func17, Try.ntmps17
    go_wp2
    go_ret
    exact ⟨rfl, ((Below.refl _ _).alloc (Nat.le_refl _) _).alloc (by simp) _⟩
  · have h3 : (x == u) = false := by simpa using h1
    clear h h1
    go_enter Try.func17, Try.ntmps17
    go_wp2
    go_ret
    exact ⟨rfl, ((Below.refl _ _).alloc (Nat.le_refl _) _).alloc (by simp) _⟩
theorem same_eq (x y : Int) (A F : Option Addr) (c fc B : Nat) (xs ys : List Int) (w : World) (hA : Row w B A (ints xs)) (hF : Row w B F (ints ys)) (hB : B ≤ w.heap.size) (lx : xs.length ≤ maxLen) (ly : ys.length ≤ maxLen) (v : Bool) (hv : decide (xs = ys) = v) :
    Calls Try.prog 17 #[.agg #[.int .i64 x, .int .i64 y, .slice A xs.length c], .agg #[.int .i64 x, .int .i64 y, .slice F ys.length fc]] w fun e w' => e = .returned (.bool v) ∧ Below w.heap.size w w' := by
  have HV := Lib.hid hv
  have HA := Lib.hid hA
  have HF := Lib.hid hF
  clear hv hA hF
  have LX := Lib.hid lx
  have LY := Lib.hid ly
  clear lx ly
  go_enter Try.func17, Try.ntmps17
  go_wp2_with fail
  refine (equal_below _ _ _ _ B xs ys _ (HA.out.below (((Below.refl _ _).alloc hB _).alloc (by simp; omega) _)) (HF.out.below (((Below.refl _ _).alloc hB _).alloc (by simp; omega) _)) LX.out LY.out).mono ?_
  rintro e w1 ⟨rfl, hb1⟩
  have HB1 := Lib.hid hb1
  clear hb1
  go_wp2
  go_ret
  refine ⟨ret_bool ?_, (((Below.refl _ _).alloc (Nat.le_refl _) _).alloc (by simp) _).trans (HB1.out.mono (by simp; omega))⟩
  rw [← HV.out, ← cmpL_beq]
/-- Shift, of a position that is not too great -/
def shiftZ (x y : Int) (n : Nat) (p : Int) : Int := if x < 0 ∨ y < 0 ∨ p ≤ x then p else if y ≤ p - x then p - y + n else x
theorem shift_any (x y p : Int) (A : Option Addr) (n c : Nat) (w : World) (hx : x ≤ 9223372036854775807) (hy : y ≤ 9223372036854775807) (hp0 : p ≤ 4611686018427387904) (hn : n ≤ 60000) (r : Int) (hr : shiftZ x y n p = r) :
    Calls Try.prog 25 #[.agg #[.int .i64 x, .int .i64 y, .slice A n c], .int .i64 p] w fun e w' => e = .returned (.int .i64 r) ∧ Below w.heap.size w w' := by
  have HR := Lib.hid hr
  clear hr
  go_enter Try.func25, Try.ntmps25
  go_wp2
  all_goals (go_ret; refine ⟨ret_int ?_, (Below.refl _ _).alloc (Nat.le_refl _) _⟩; rw [← HR.out]; unfold shiftZ)
  all_goals first | (rw [if_pos (by omega)]; done) | (rw [if_neg (by omega), if_pos (by omega)]; done) | (rw [if_neg (by omega), if_neg (by omega)])
end Go.Proofs.Ytmiebgejmiadlaa
