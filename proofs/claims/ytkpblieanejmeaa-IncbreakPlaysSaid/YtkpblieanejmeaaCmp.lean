/-
  cmp.Compare of two integers: a walk.
-/
import Derived.Test.YtkpblieanejmeaaProg
import Derived.Test.YtkpblieanejmeaaBase
import Derived.WalkKit
namespace Go.Proofs.Ytkpblieanejmeaa
open Go.RowKit Go.UtYtkpblieanejmeaa
def cmp3 (x y : Int) : Int := if x < y then -1 else if y < x then 1 else 0
theorem nan_any (x : Int) (w : World) : Calls Try.prog 82 #[.int .i64 x] w fun e w' => e = .returned (.bool false) ∧ w = w' := by
  go_enter Try.func82, Try.ntmps82
  go_wp2
  go_ret
  exact ⟨ret_bool (by simp), rfl⟩
theorem cmp_any (x y : Int) (w : World) (v : Int) (hv : cmp3 x y = v) : Calls Try.prog 107 #[.int .i64 x, .int .i64 y] w fun e w' => e = .returned (.int .i64 v) ∧ w' = w := by
  have HV := Lib.hid hv
  clear hv
  go_enter Try.func107, Try.ntmps107
  go_wp2_with (first | (go_at_call 82; refine (nan_any _ _).mono ?_; rintro e w' ⟨rfl, rfl⟩))
  all_goals (go_ret; refine ⟨ret_int ?_, rfl⟩; rw [← HV.out]; unfold cmp3)
  all_goals first | (rw [if_pos (by omega)]; done) | (rw [if_neg (by omega), if_pos (by omega)]; done) | (rw [if_neg (by omega), if_neg (by omega)])
end Go.Proofs.Ytkpblieanejmeaa
