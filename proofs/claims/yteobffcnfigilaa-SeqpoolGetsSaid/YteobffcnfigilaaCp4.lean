/-
  codepoint.Compare, codepoint.Equal: walks, for any two lists.
-/
import Derived.Test.YteobffcnfigilaaProg
import Derived.Test.YteobffcnfigilaaBase
import Derived.Test.YteobffcnfigilaaRef1
import Derived.Test.YteobffcnfigilaaCmp
import Derived.WalkKit
import Derived.Deep.QuietTactic
import Derived.BigQuiet
import Derived.Outline
import Derived.IntWalk
namespace Go.Proofs.Yteobffcnfigilaa
open Go.RowKit Go.UtYteobffcnfigilaa
theorem quiet_add_same {P : Program} {f : FuncId} {args : Array Value} {w : World} {a n : Nat} {v : Value}
    (h : Calls P f args (w.drewN (a + n)) fun e w' => e = .returned v ∧ w' = w.drewN (a + n)) :
    Calls P f args (w.drewN (a + n)) fun e w'' => e = .returned v ∧ ∃ m, w'' = w.drewN (a + m) :=
  h.mono fun _ _ ⟨he, hm⟩ => ⟨he, n, hm⟩
set_option maxHeartbeats 1000000 in
theorem ccompare_any (A A' : Option Addr) (c c' B : Nat) (xs ys : List Int) (w : World) (hx : Row w B A (ints xs)) (hy : Row w B A' (ints ys)) (lx : xs.length ≤ maxLen) (ly : ys.length ≤ maxLen) :
    Calls Try.prog 33 #[.slice A xs.length c, .slice A' ys.length c'] w fun e w' => e = .returned (.int .i64 (cmpL xs ys)) ∧ ∃ n, w' = w.drewN n := by
  unfold maxLen at lx ly
  have HX := Lib.hid hx
  have HY := Lib.hid hy
  clear hx hy
  go_enter Try.func33, Try.ntmps33
  go_wp2
  all_goals
    go_loopw [11] (fun i wr => ∃ k : Nat, k ≤ xs.length ∧ k ≤ ys.length ∧ i = .int .i64 k ∧ Hid (cmpL (xs.drop k) (ys.drop k) = cmpL xs ys) ∧ Hid (∃ n, wr = w.drewN n)) (fun i _ => xs.length - (intOf i).toNat)
    case atStart => exact ⟨0, by omega, by omega, rfl, rfl, 0, rfl⟩
    case round =>
      obtain ⟨k, hk, hk', rfl, HC, HW⟩ := hrel
      by_cases h1 : k < xs.length ∧ k < ys.length
      · obtain ⟨h1, h2⟩ := h1
        obtain ⟨b, o, x, rfl, hb, hxk, hc⟩ := HX.out.at_int h1
        obtain ⟨b', o', y, rfl, hb', hyk, hc'⟩ := HY.out.at_int h2
        obtain ⟨n, rfl⟩ := HW.out
        clear HW
        by_cases h3 : x = y
        · subst h3
          go_wp2
          go_quiet (fail)
          go_wp2
          go_roundw
          case rel => exact ⟨k+1, by omega, by omega, by go_num, cmpL_eq hxk.out hyk.out HC.out, _, rfl⟩
          case measure => simp [intOf]; omega
        · have h4 : (x != y) = true := by simp [h3]
          have HE : Hid (cmpL xs ys = cmp3 x y) := by
            show _ = _
            rcases Int.lt_or_gt_of_ne h3 with h | h
            · rw [← cmpL_lt hxk.out hyk.out h HC.out, cmp3, if_pos h]
            · rw [← cmpL_gt hxk.out hyk.out h HC.out, cmp3, if_neg (by omega), if_pos h]
          clear h3
          go_wp2
          go_quiet (fail)
          go_wp2
          go_quiet ((go_at_call 34; exact quiet_add_same (cmp_any _ _ _ _ rfl)))
          go_wp2
          go_ret
          exact ⟨ret_int HE.out.symm, (n + _) + _, (congrArg (World.drewN · _) (World.drewN_drewN _ _ _)).trans (World.drewN_drewN _ _ _)⟩
      · have HE : Hid (cmpL xs ys = cmp3 xs.length ys.length) := by
          show _ = _
          rw [HC.out.symm.trans (cmpL_end xs ys k hk hk' (by omega))]
          unfold cmp3
          by_cases q1 : xs.length < ys.length
          · rw [if_pos q1, if_pos (by omega)]
          · by_cases q2 : ys.length < xs.length
            · rw [if_neg q1, if_pos q2, if_neg (by omega), if_pos (by omega)]
            · rw [if_neg q1, if_neg q2, if_neg (by omega), if_neg (by omega)]
        go_wp2_with fail
        refine (cmp_any _ _ _ _ HE.out.symm).mono ?_
        rintro e w1 ⟨rfl, rfl⟩
        go_wp2
        go_ret
        exact ⟨rfl, HW.out⟩
theorem cequal_any (A A' : Option Addr) (c c' B : Nat) (xs ys : List Int) (w : World) (hx : Row w B A (ints xs)) (hy : Row w B A' (ints ys)) (lx : xs.length ≤ maxLen) (ly : ys.length ≤ maxLen) :
    Calls Try.prog 28 #[.slice A xs.length c, .slice A' ys.length c'] w fun e w' => e = .returned (.bool (cmpL xs ys == 0)) ∧ ∃ n, w' = w.drewN n := by
  go_enter Try.func28, Try.ntmps28
  go_wp2_with fail
  refine (ccompare_any _ _ _ _ _ _ _ _ hx hy lx ly).mono ?_
  rintro e w' ⟨rfl, n, rfl⟩
  go_wp2
  go_ret
  exact ⟨rfl, _, rfl⟩
theorem cequal_v (A A' : Option Addr) (n n' c c' B : Nat) (xs ys : List Int) (w : World) (hx : Row w B A (ints xs)) (hy : Row w B A' (ints ys)) (ex : xs.length = n) (ey : ys.length = n') (lx : n ≤ maxLen) (ly : n' ≤ maxLen) (v : Bool) (hv : decide (xs = ys) = v) :
    Calls Try.prog 28 #[.slice A n c, .slice A' n' c'] w fun e w' => e = .returned (.bool v) ∧ ∃ n, w' = w.drewN n := by
  subst ex ey hv
  rw [← cmpL_beq]
  exact cequal_any A A' c c' B xs ys w hx hy lx ly
end Go.Proofs.Yteobffcnfigilaa
