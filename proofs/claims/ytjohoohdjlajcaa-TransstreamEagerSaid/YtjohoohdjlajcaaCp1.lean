/-
  codepoint.Valid, Surrogate, Scalar, Noncharacter, Plane and those of ref01: walks, for every number.
-/
import Derived.Test.YtjohoohdjlajcaaProg
import Derived.Test.YtjohoohdjlajcaaBase
import Derived.WalkKit
import Derived.Outline
import Derived.IntWalk
namespace Go.Proofs.Ytjohoohdjlajcaa
open Go.RowKit Go.UtYtjohoohdjlajcaa
def vldB (c : Int) : Bool := decide (0 ≤ c ∧ c ≤ 1114111)
def surB (c : Int) : Bool := decide (55296 ≤ c ∧ c ≤ 57343)
def scaB (c : Int) : Bool := vldB c && !surB c
def nonB (c : Int) : Bool := vldB c && (decide (64976 ≤ c ∧ c ≤ 65007) || decide (65534 ≤ c % 65536))
def plnZ (c : Int) : Int := if 0 ≤ c ∧ c ≤ 1114111 then c / 65536 else -1
theorem and_fffe (n : Nat) : n &&& 65534 = 2 * (n / 2 % 32768) := by
  have h1 : (n &&& 65534) / 2 = (n / 2) &&& 32767 := by
    have := Nat.and_div_two_pow (a := n) (b := 65534) (n := 1)
    simpa using this
  have h2 : (n &&& 65534) % 2 = 0 := by
    have := Nat.and_mod_two_pow (a := n) (b := 65534) (n := 1)
    simpa using this
  have h3 : (n / 2) &&& 32767 = n / 2 % 32768 := Nat.and_two_pow_sub_one_eq_mod (n / 2) 15
  omega
theorem bits_and_i64 (a b : Nat) (ha : a < 9223372036854775808) (hb : b < 9223372036854775808) : bits .and .i64 (a : Int) (b : Int) = ((a &&& b : Nat) : Int) := by
  have hx : a &&& b < 2 ^ 63 := Nat.and_lt_two_pow _ (by omega)
  have h1 : (BitVec.ofInt 64 (a : Int)).toNat = a := by
    rw [BitVec.ofInt_natCast, BitVec.toNat_ofNat]; exact Nat.mod_eq_of_lt (by omega)
  have h2 : (BitVec.ofInt 64 (b : Int)).toNat = b := by
    rw [BitVec.ofInt_natCast, BitVec.toNat_ofNat]; exact Nat.mod_eq_of_lt (by omega)
  show IntKind.i64.wrap ((BitVec.ofInt 64 (a : Int) &&& BitVec.ofInt 64 (b : Int)).toNat : Int) = _
  rw [BitVec.toNat_and, h1, h2]
  exact IntWalk.i64_in _ (by omega)
theorem fffe_eq (c : Int) (h : 0 ≤ c ∧ c ≤ 1114111) : (bits .and .i64 c 65534 == 65534) = decide (65534 ≤ c % 65536) := by
  obtain ⟨n, rfl⟩ := Int.eq_ofNat_of_zero_le h.1
  have := bits_and_i64 n 65534 (by omega) (by omega)
  rw [show ((65534 : Nat) : Int) = 65534 from rfl] at this
  rw [this, and_fffe, Bool.eq_iff_iff, beq_iff_eq, decide_eq_true_iff]
  omega
theorem vld_of {c : Int} (h : vldB c = true) : 0 ≤ c ∧ c ≤ 1114111 := of_decide_eq_true h
theorem vld_off {c : Int} (h : vldB c = false) : ¬ (0 ≤ c ∧ c ≤ 1114111) := of_decide_eq_false h
theorem valid_any (c : Int) (w : World) (v : Bool) (hv : vldB c = v) : Calls Try.prog 52 #[.int .i64 c] w fun e w' => e = .returned (.bool v) ∧ w = w' := by
  have HV := Lib.hid hv
  clear hv
  go_enter Try.func52, Try.ntmps52
  go_wp2
  all_goals (go_ret; refine ⟨ret_bool ?_, rfl⟩; rw [← HV.out]; unfold vldB)
  all_goals (simp; try omega)
theorem valid2_any (c : Int) (w : World) (v : Bool) (hv : vldB c = v) : Calls Try.prog 37 #[.int .i64 c] w fun e w' => e = .returned (.bool v) ∧ w = w' := by
  have HV := Lib.hid hv
  clear hv
  go_enter Try.func37, Try.ntmps37
  go_wp2
  all_goals (go_ret; refine ⟨ret_bool ?_, rfl⟩; rw [← HV.out]; unfold vldB)
  all_goals (simp; try omega)
end Go.Proofs.Ytjohoohdjlajcaa
