/-
  codepoint.Valid, Surrogate, Scalar, Noncharacter, Plane and those of ref01: walks, for every number.
-/
import Derived.Test.YthljjfanmoeegaaDoorProg
import Derived.Test.YthljjfanmoeegaaDoorBase
import Derived.WalkKit
import Derived.Outline
import Derived.IntWalk
namespace Go.Proofs.YthljjfanmoeegaaDoor
open Go.RowKit Go.UtYthljjfanmoeegaaDoor
def vldB (c : Int) : Bool := decide (0 ≤ c ∧ c ≤ 1114111)
def surB (c : Int) : Bool := decide (55296 ≤ c ∧ c ≤ 57343)
def scaB (c : Int) : Bool := vldB c && !surB c
def nonB (c : Int) : Bool := vldB c && (decide (64976 ≤ c ∧ c ≤ 65007) || decide (65534 ≤ c % 65536))
def plnZ (c : Int) : Int := if 0 ≤ c ∧ c ≤ 1114111 then c / 65536 else -1
theorem and_fffe (n : Nat) : n &&& 65534 = 2 * (n / 2 % 32768) := by
  have h1 : (n &&& 65534) / 2 = (n / 2) &&& 32767 := by
    have := Nat.and_div_two_pow (a := n) (b := 65534) (n := 1)
    simpa using this
  have h2 : (n &&& 65534) % 2 = 0 := by
    have := Nat.and_mod_two_pow (a := n) (b := 65534) (n := 1)
    simpa using this
  have h3 : (n / 2) &&& 32767 = n / 2 % 32768 := Nat.and_two_pow_sub_one_eq_mod (n / 2) 15
  omega
theorem bits_and_i64 (a b : Nat) (ha : a < 9223372036854775808) (hb : b < 9223372036854775808) : bits .and .i64 (a : Int) (b : Int) = ((a &&& b : Nat) : Int) := by
  have hx : a &&& b < 2 ^ 63 := Nat.and_lt_two_pow _ (by omega)
  have h1 : (BitVec.ofInt 64 (a : Int)).toNat = a := by
    rw [BitVec.ofInt_natCast, BitVec.toNat_ofNat]; exact Nat.mod_eq_of_lt (by omega)
  have h2 : (BitVec.ofInt 64 (b : Int)).toNat = b := by
    rw [BitVec.ofInt_natCast, BitVec.toNat_ofNat]; exact Nat.mod_eq_of_lt (by omega)
  show IntKind.i64.wrap ((BitVec.ofInt 64 (a : Int) &&& BitVec.ofInt 64 (b : Int)).toNat : Int) = _
  rw [BitVec.toNat_and, h1, h2]
  exact IntWalk.i64_in _ (by omega)
theorem fffe_eq (c : Int) (h : 0 ≤ c ∧ c ≤ 1114111) : (bits .and .i64 c 65534 == 65534) = decide (65534 ≤ c % 65536) := by
  obtain ⟨n, rfl⟩ := Int.eq_ofNat_of_zero_le h.1
  have := bits_and_i64 n 65534 (by omega) (by omega)
  rw [show ((65534 : Nat) : Int) = 65534 from rfl] at this
  rw [this, and_fffe, Bool.eq_iff_iff, beq_iff_eq, decide_eq_true_iff]
  omega
theorem vld_of {c : Int} (h : vldB c = true) : 0 ≤ c ∧ c ≤ 1114111 := of_decide_eq_true h
theorem vld_off {c : Int} (h : vldB c = false) : ¬ (0 ≤ c ∧ c ≤ 1114111) := of_decide_eq_false h
theorem valid_any (c : Int) (w : World) (v : Bool) (hv : vldB c = v) : Calls Tryd.prog 12 #[.int .i64 c] w fun e w' => e = .returned (.bool v) ∧ w = w' := by
  have HV := Lib.hid hv
  clear hv
  go_enter Tryd.func12, Tryd.ntmps12
  go_wp2
  all_goals (go_ret; refine ⟨ret_bool ?_, rfl⟩; rw [← HV.out]; unfold vldB)
  all_goals (simp; try omega)
theorem valid2_any (c : Int) (w : World) (v : Bool) (hv : vldB c = v) : Calls Tryd.prog 19 #[.int .i64 c] w fun e w' => e = .returned (.bool v) ∧ w = w' := by
  have HV := Lib.hid hv
  clear hv
  go_enter Tryd.func19, Tryd.ntmps19
  go_wp2
  all_goals (go_ret; refine ⟨ret_bool ?_, rfl⟩; rw [← HV.out]; unfold vldB)
  all_goals (simp; try omega)
theorem surr_any (c : Int) (w : World) (v : Bool) (hv : surB c = v) : Calls Tryd.prog 22 #[.int .i64 c] w fun e w' => e = .returned (.bool v) ∧ w = w' := by
  have HV := Lib.hid hv
  clear hv
  go_enter Tryd.func22, Tryd.ntmps22
  go_wp2
  all_goals (go_ret; refine ⟨ret_bool ?_, rfl⟩; rw [← HV.out]; unfold surB)
  all_goals (simp; try omega)
theorem surr2_any (c : Int) (w : World) (v : Bool) (hv : surB c = v) : Calls Tryd.prog 23 #[.int .i64 c] w fun e w' => e = .returned (.bool v) ∧ w = w' := by
  have HV := Lib.hid hv
  clear hv
  go_enter Tryd.func23, Tryd.ntmps23
  go_wp2
  all_goals (go_ret; refine ⟨ret_bool ?_, rfl⟩; rw [← HV.out]; unfold surB)
  all_goals (simp; try omega)
theorem scal_any (c : Int) (w : World) (v : Bool) (hv : scaB c = v) : Calls Tryd.prog 20 #[.int .i64 c] w fun e w' => e = .returned (.bool v) ∧ w = w' := by
  have HV := Lib.hid hv
  clear hv
  cases h1 : vldB c with
  | false =>
    have H1 := Lib.hid h1
    clear h1
    go_enter Tryd.func20, Tryd.ntmps20
    go_wp2_with (first | (go_at_call 12; refine (valid_any _ _ _ H1.out).mono ?_; rintro e w' ⟨rfl, rfl⟩))
    go_ret
    exact ⟨ret_bool (by rw [← HV.out, scaB, H1.out]; rfl), rfl⟩
  | true =>
    have H1 := Lib.hid h1
    clear h1
    cases h2 : surB c
    all_goals
      have H2 := Lib.hid h2
      clear h2
      go_enter Tryd.func20, Tryd.ntmps20
      go_wp2_with (first | (go_at_call 12; refine (valid_any _ _ _ H1.out).mono ?_; rintro e w' ⟨rfl, rfl⟩) | (go_at_call 22; refine (surr_any _ _ _ H2.out).mono ?_; rintro e w' ⟨rfl, rfl⟩))
      go_ret
      exact ⟨ret_bool (by rw [← HV.out, scaB, H1.out, H2.out]; rfl), rfl⟩
theorem scal2_any (c : Int) (w : World) (v : Bool) (hv : scaB c = v) : Calls Tryd.prog 21 #[.int .i64 c] w fun e w' => e = .returned (.bool v) ∧ w = w' := by
  have HV := Lib.hid hv
  clear hv
  cases h1 : vldB c with
  | false =>
    have H1 := Lib.hid h1
    clear h1
    go_enter Tryd.func21, Tryd.ntmps21
    go_wp2_with (first | (go_at_call 19; refine (valid2_any _ _ _ H1.out).mono ?_; rintro e w' ⟨rfl, rfl⟩))
    go_ret
    exact ⟨ret_bool (by rw [← HV.out, scaB, H1.out]; rfl), rfl⟩
  | true =>
    have H1 := Lib.hid h1
    clear h1
    cases h2 : surB c
    all_goals
      have H2 := Lib.hid h2
      clear h2
      go_enter Tryd.func21, Tryd.ntmps21
      go_wp2_with (first | (go_at_call 19; refine (valid2_any _ _ _ H1.out).mono ?_; rintro e w' ⟨rfl, rfl⟩) | (go_at_call 23; refine (surr2_any _ _ _ H2.out).mono ?_; rintro e w' ⟨rfl, rfl⟩))
      go_ret
      exact ⟨ret_bool (by rw [← HV.out, scaB, H1.out, H2.out]; rfl), rfl⟩
theorem plane_any (c : Int) (w : World) (v : Int) (hv : plnZ c = v) : Calls Tryd.prog 26 #[.int .i64 c] w fun e w' => e = .returned (.int .i64 v) ∧ w = w' := by
  have HV := Lib.hid hv
  clear hv
  by_cases h : 0 ≤ c ∧ c ≤ 1114111
  · have H1 := Lib.hid (show vldB c = true by simp [vldB, h])
    obtain ⟨h1, h2⟩ := h
    go_enter Tryd.func26, Tryd.ntmps26
    go_wp2_with (first | (go_at_call 12; refine (valid_any _ _ _ H1.out).mono ?_; rintro e w' ⟨rfl, rfl⟩))
    go_ret
    exact ⟨ret_int (by rw [← HV.out, plnZ, if_pos ⟨h1, h2⟩]), rfl⟩
  · have H1 := Lib.hid (show vldB c = false by simp only [vldB, decide_eq_false_iff_not]; exact h)
    have H2 := Lib.hid h
    clear h
    go_enter Tryd.func26, Tryd.ntmps26
    go_wp2_with (first | (go_at_call 12; refine (valid_any _ _ _ H1.out).mono ?_; rintro e w' ⟨rfl, rfl⟩))
    go_ret
    exact ⟨ret_int (by rw [← HV.out, plnZ, if_neg H2.out]), rfl⟩
theorem plane2_any (c : Int) (w : World) (v : Int) (hv : plnZ c = v) : Calls Tryd.prog 27 #[.int .i64 c] w fun e w' => e = .returned (.int .i64 v) ∧ w = w' := by
  have HV := Lib.hid hv
  clear hv
  by_cases h : 0 ≤ c ∧ c ≤ 1114111
  · have H1 := Lib.hid (show vldB c = true by simp [vldB, h])
    obtain ⟨h1, h2⟩ := h
    go_enter Tryd.func27, Tryd.ntmps27
    go_wp2_with (first | (go_at_call 19; refine (valid2_any _ _ _ H1.out).mono ?_; rintro e w' ⟨rfl, rfl⟩))
    go_ret
    exact ⟨ret_int (by rw [← HV.out, plnZ, if_pos ⟨h1, h2⟩]), rfl⟩
  · have H1 := Lib.hid (show vldB c = false by simp only [vldB, decide_eq_false_iff_not]; exact h)
    have H2 := Lib.hid h
    clear h
    go_enter Tryd.func27, Tryd.ntmps27
    go_wp2_with (first | (go_at_call 19; refine (valid2_any _ _ _ H1.out).mono ?_; rintro e w' ⟨rfl, rfl⟩))
    go_ret
    exact ⟨ret_int (by rw [← HV.out, plnZ, if_neg H2.out]), rfl⟩
theorem nonc_any (c : Int) (w : World) (v : Bool) (hv : nonB c = v) : Calls Tryd.prog 24 #[.int .i64 c] w fun e w' => e = .returned (.bool v) ∧ w = w' := by
  have HV := Lib.hid hv
  clear hv
  cases h1 : vldB c
  all_goals
    have H1 := Lib.hid h1
    clear h1
    go_enter Tryd.func24, Tryd.ntmps24
    go_wp2_with (first | (go_at_call 12; refine (valid_any _ _ _ H1.out).mono ?_; rintro e w' ⟨rfl, rfl⟩))
    all_goals go_ret
    all_goals refine ⟨ret_bool ?_, rfl⟩
    all_goals rw [← HV.out]
    all_goals unfold nonB
    all_goals rw [H1.out]
    all_goals (try have hq := vld_off H1.out)
    all_goals (try have hq := vld_of H1.out)
    all_goals (try rw [fffe_eq c hq])
    all_goals (try rw [Int.tmod_eq_emod_of_nonneg hq.1])
    all_goals first | (simp; done) | (simp; omega) | (rw [Bool.eq_iff_iff]; simp; omega)
theorem nonc2_any (c : Int) (w : World) (v : Bool) (hv : nonB c = v) : Calls Tryd.prog 25 #[.int .i64 c] w fun e w' => e = .returned (.bool v) ∧ w = w' := by
  have HV := Lib.hid hv
  clear hv
  cases h1 : vldB c
  all_goals
    have H1 := Lib.hid h1
    clear h1
    go_enter Tryd.func25, Tryd.ntmps25
    go_wp2_with (first | (go_at_call 19; refine (valid2_any _ _ _ H1.out).mono ?_; rintro e w' ⟨rfl, rfl⟩))
    all_goals go_ret
    all_goals refine ⟨ret_bool ?_, rfl⟩
    all_goals rw [← HV.out]
    all_goals unfold nonB
    all_goals rw [H1.out]
    all_goals (try have hq := vld_off H1.out)
    all_goals (try have hq := vld_of H1.out)
    all_goals (try rw [fffe_eq c hq])
    all_goals (try rw [Int.tmod_eq_emod_of_nonneg hq.1])
    all_goals first | (simp; done) | (simp; omega) | (rw [Bool.eq_iff_iff]; simp; omega)
end Go.Proofs.YthljjfanmoeegaaDoor
