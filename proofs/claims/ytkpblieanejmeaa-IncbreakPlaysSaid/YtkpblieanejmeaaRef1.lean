/-
  The reference's order of lists (ref01.Compare, ref01.Equal): walks, for any two lists of integers.
-/
import Derived.Test.YtkpblieanejmeaaProg
import Derived.Test.YtkpblieanejmeaaBase
import Derived.WalkKit
import Derived.Deep.QuietTactic
import Derived.BigQuiet
namespace Go.Proofs.Ytkpblieanejmeaa
open Go.RowKit Go.UtYtkpblieanejmeaa
def cmpL : List Int → List Int → Int
  | [], [] => 0
  | [], _ :: _ => -1
  | _ :: _, [] => 1
  | x :: xs, y :: ys => if x < y then -1 else if y < x then 1 else cmpL xs ys
theorem drop_cons {xs : List Int} {k : Nat} {x : Int} (h : xs[k]? = some x) : xs.drop k = x :: xs.drop (k+1) := by
  obtain ⟨hk, rfl⟩ := List.getElem?_eq_some_iff.1 h
  exact List.drop_eq_getElem_cons hk
theorem cmpL_lt {xs ys : List Int} {k : Nat} {x y : Int} (hx : xs[k]? = some x) (hy : ys[k]? = some y) (h : x < y) (hc : cmpL (xs.drop k) (ys.drop k) = cmpL xs ys) : -1 = cmpL xs ys := by
  rw [← hc, drop_cons hx, drop_cons hy, cmpL, if_pos h]
theorem cmpL_gt {xs ys : List Int} {k : Nat} {x y : Int} (hx : xs[k]? = some x) (hy : ys[k]? = some y) (h : y < x) (hc : cmpL (xs.drop k) (ys.drop k) = cmpL xs ys) : 1 = cmpL xs ys := by
  rw [← hc, drop_cons hx, drop_cons hy, cmpL, if_neg (by omega), if_pos h]
theorem cmpL_eq {xs ys : List Int} {k : Nat} {x : Int} (hx : xs[k]? = some x) (hy : ys[k]? = some x) (hc : cmpL (xs.drop k) (ys.drop k) = cmpL xs ys) : cmpL (xs.drop (k+1)) (ys.drop (k+1)) = cmpL xs ys := by
  rw [← hc, drop_cons hx, drop_cons hy]; conv => rhs; rw [cmpL, if_neg (by omega), if_neg (by omega)]
theorem cmpL_end (xs ys : List Int) (k : Nat) (hx : k ≤ xs.length) (hy : k ≤ ys.length) (h : k = xs.length ∨ k = ys.length) :
    cmpL (xs.drop k) (ys.drop k) = if xs.length < ys.length then -1 else if ys.length < xs.length then 1 else 0 := by
  by_cases h1 : k < xs.length
  · have : k = ys.length := by omega
    subst this
    rw [List.drop_eq_getElem_cons h1, List.drop_length, cmpL, if_neg (by omega), if_pos h1]
  · have e1 : xs.drop k = [] := List.drop_eq_nil_of_le (by omega)
    rw [e1]
    by_cases h2 : k < ys.length
    · rw [List.drop_eq_getElem_cons h2, cmpL, if_pos (by omega)]
    · rw [List.drop_eq_nil_of_le (by omega), cmpL, if_neg (by omega), if_neg (by omega)]
set_option maxHeartbeats 1000000 in
theorem compare_any (A A' : Option Addr) (c c' B : Nat) (xs ys : List Int) (w : World) (hx : Row w B A (ints xs)) (hy : Row w B A' (ints ys)) (lx : xs.length ≤ maxLen) (ly : ys.length ≤ maxLen) :
    Calls Try.prog 48 #[.slice A xs.length c, .slice A' ys.length c'] w fun e w' => e = .returned (.int .i64 (cmpL xs ys)) ∧ ∃ n, w' = w.drewN n := by
  unfold maxLen at lx ly
  have HX := Lib.hid hx
  have HY := Lib.hid hy
  clear hx hy
  go_enter Try.func48, Try.ntmps48
  go_wp2
  go_loopw [5] (fun i wr => ∃ k : Nat, k ≤ xs.length ∧ k ≤ ys.length ∧ i = .int .i64 k ∧ Hid (cmpL (xs.drop k) (ys.drop k) = cmpL xs ys) ∧ Hid (∃ n, wr = w.drewN n)) (fun i _ => xs.length - (intOf i).toNat)
  case atStart => exact ⟨0, by omega, by omega, rfl, rfl, 0, rfl⟩
  case round =>
    obtain ⟨k, hk, hk', rfl, HC, HW⟩ := hrel
    by_cases h1 : k < xs.length
    · by_cases h2 : k < ys.length
      · obtain ⟨b, o, x, rfl, hb, hxk, hc⟩ := HX.out.at_int h1
        obtain ⟨b', o', y, rfl, hb', hyk, hc'⟩ := HY.out.at_int h2
        obtain ⟨n, rfl⟩ := HW.out
        clear HW
        rcases Int.lt_trichotomy x y with h3 | rfl | h3
        · go_wp2
          go_quiet (fail)
          go_wp2
          go_ret
          exact ⟨ret_int (cmpL_lt hxk.out hyk.out h3 HC.out), n + _, World.drewN_drewN _ _ _⟩
        · go_wp2
          go_quiet (fail)
          go_wp2
          go_quiet (fail)
          go_wp2
          go_roundw
          case rel => exact ⟨k+1, by omega, by omega, by go_num, cmpL_eq hxk.out hyk.out HC.out, _, rfl⟩
          case measure => simp [intOf]; omega
        · have h4 : ¬ x < y := by omega
          go_wp2
          go_quiet (fail)
          go_wp2
          go_quiet (fail)
          go_wp2
          go_ret
          exact ⟨ret_int (cmpL_gt hxk.out hyk.out h3 HC.out), (n + _) + _, (congrArg (World.drewN · _) (World.drewN_drewN _ _ _)).trans (World.drewN_drewN _ _ _)⟩
      · have HE := Lib.hid (HC.out.symm.trans (cmpL_end xs ys k hk hk' (by omega)))
        go_wp2
        all_goals (go_ret; refine ⟨ret_int ?_, HW.out⟩; rw [HE.out])
        all_goals first | (rw [if_pos (by omega)]; done) | (rw [if_neg (by omega), if_pos (by omega)]; done) | (rw [if_neg (by omega), if_neg (by omega)])
    · have HE := Lib.hid (HC.out.symm.trans (cmpL_end xs ys k hk hk' (by omega)))
      go_wp2
      all_goals (go_ret; refine ⟨ret_int ?_, HW.out⟩; rw [HE.out])
      all_goals first | (rw [if_pos (by omega)]; done) | (rw [if_neg (by omega), if_pos (by omega)]; done) | (rw [if_neg (by omega), if_neg (by omega)])
theorem equal_any (A A' : Option Addr) (c c' B : Nat) (xs ys : List Int) (w : World) (hx : Row w B A (ints xs)) (hy : Row w B A' (ints ys)) (lx : xs.length ≤ maxLen) (ly : ys.length ≤ maxLen) :
    Calls Try.prog 17 #[.slice A xs.length c, .slice A' ys.length c'] w fun e w' => e = .returned (.bool (cmpL xs ys == 0)) ∧ ∃ n, w' = w.drewN n := by
  go_enter Try.func17, Try.ntmps17
  go_wp2_with fail
  refine (compare_any _ _ _ _ _ _ _ _ hx hy lx ly).mono ?_
  rintro e w' ⟨rfl, n, rfl⟩
  go_wp2
  go_ret
  exact ⟨rfl, _, rfl⟩

theorem equal_below (A A' : Option Addr) (c c' B : Nat) (xs ys : List Int) (w : World) (hx : Row w B A (ints xs)) (hy : Row w B A' (ints ys)) (lx : xs.length ≤ maxLen) (ly : ys.length ≤ maxLen) :
    Calls Try.prog 17 #[.slice A xs.length c, .slice A' ys.length c'] w fun e w' => e = .returned (.bool (cmpL xs ys == 0)) ∧ Below w.heap.size w w' :=
  (equal_any A A' c c' B xs ys w hx hy lx ly).mono fun _ _ ⟨he, n, hw⟩ => ⟨he, hw ▸ below_drewN (Below.refl _ _) n⟩
theorem cmpL_refl (xs : List Int) : cmpL xs xs = 0 := by
  induction xs with
  | nil => rfl
  | cons x xs ih => rw [cmpL, if_neg (by omega), if_neg (by omega), ih]
theorem cmpL_zero (xs ys : List Int) (h : cmpL xs ys = 0) : xs = ys := by
  induction xs generalizing ys with
  | nil => cases ys with
    | nil => rfl
    | cons y ys => simp [cmpL] at h
  | cons x xs ih => cases ys with
    | nil => simp [cmpL] at h
    | cons y ys =>
      rw [cmpL] at h
      by_cases h1 : x < y
      · rw [if_pos h1] at h; omega
      · by_cases h2 : y < x
        · rw [if_neg h1, if_pos h2] at h; omega
        · rw [if_neg h1, if_neg h2] at h
          rw [ih ys h, show x = y by omega]
theorem cmpL_beq (xs ys : List Int) : (cmpL xs ys == 0) = decide (xs = ys) := by
  by_cases h : xs = ys
  · subst h; simp [cmpL_refl]
  · have : cmpL xs ys ≠ 0 := fun e => h (cmpL_zero _ _ e)
    simp [h, this]
end Go.Proofs.Ytkpblieanejmeaa
