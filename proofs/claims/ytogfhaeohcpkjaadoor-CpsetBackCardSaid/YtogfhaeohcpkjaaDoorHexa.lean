/-
  Hexadecimal digits: plain lists of bytes.
-/
namespace Go.UtYtogfhaeohcpkjaaDoor
/-- the digits by their values -/
def dg (d : Nat) : UInt8 := if d < 10 then UInt8.ofNat (48 + d) else UInt8.ofNat (55 + d)
/-- the value of a digit, -1 for other bytes -/
def val (b : Int) : Int := if 48 ≤ b ∧ b ≤ 57 then b - 48 else if 65 ≤ b ∧ b ≤ 70 then b - 55 else -1
theorem dg_nat (d : Nat) (h : d < 16) : (dg d).toNat = if d < 10 then 48 + d else 55 + d := by
  unfold dg
  split <;> simp <;> omega
theorem val_dg (d : Nat) (h : d < 16) : val ((dg d).toNat : Int) = d := by
  rw [dg_nat d h]
  unfold val
  split <;> split <;> first | omega | (split <;> omega)
/-- the last k digits -/
def hx : Nat → Nat → List UInt8
  | 0, _ => []
  | k + 1, c => dg (c / 16 ^ k % 16) :: hx k c
theorem hx_len (k c : Nat) : (hx k c).length = k := by
  induction k with
  | zero => rfl
  | succ k ih => simp [hx, ih]
/-- how many digits -/
def nd (c : Nat) : Nat := if c < 65536 then 4 else if c < 1048576 then 5 else 6
def hexS (c : Int) : List UInt8 := if 0 ≤ c ∧ c ≤ 1114111 then hx (nd c.toNat) c.toNat else []
/-- the number that digits write; none if a byte is no digit -/
def num (a : Int) : List UInt8 → Option Int
  | [] => some a
  | b :: l => if val (b.toNat : Int) < 0 then none else num (a * 16 + val (b.toNat : Int)) l
def parse (l : List UInt8) : Int × Int :=
  if l.length < 4 ∨ 6 < l.length then (0, 3) else
    match num 0 l with
    | none => (0, 3)
    | some c => if hexS c = l then (c, 0) else (0, 3)
theorem num_hx (k c : Nat) (a : Nat) : num (a : Int) (hx k c) = some ((a * 16 ^ k + c % 16 ^ k : Nat) : Int) := by
  induction k generalizing a with
  | zero => simp [hx, num, Nat.mod_one]
  | succ k ih =>
    have hd : c / 16 ^ k % 16 < 16 := Nat.mod_lt _ (by omega)
    rw [hx, num, val_dg _ hd, if_neg (by omega)]
    have e : (a : Int) * 16 + ((c / 16 ^ k % 16 : Nat) : Int) = ((a * 16 + c / 16 ^ k % 16 : Nat) : Int) := by omega
    rw [e, ih]
    congr 2
    have := Nat.mod_mul (x := c) (a := 16 ^ k) (b := 16)
    rw [Nat.pow_succ, this, Nat.add_mul]
    have h2 : a * 16 * 16 ^ k = a * (16 ^ k * 16) := by rw [Nat.mul_assoc, Nat.mul_comm 16]
    rw [h2, Nat.mul_comm (c / 16 ^ k % 16)]
    omega
theorem parse_hex (c : Int) (h : 0 ≤ c ∧ c ≤ 1114111) : parse (hexS c) = (c, 0) := by
  obtain ⟨n, rfl⟩ := Int.eq_ofNat_of_zero_le h.1
  have hn : n ≤ 1114111 := by omega
  have e : hexS (n : Int) = hx (nd n) n := by unfold hexS; rw [if_pos h]; rfl
  have hl : 4 ≤ nd n ∧ nd n ≤ 6 ∧ n < 16 ^ nd n := by
    unfold nd
    split
    · omega
    · split <;> omega
  have h0 := num_hx (nd n) n 0
  rw [Nat.zero_mul, Nat.zero_add, Nat.mod_eq_of_lt hl.2.2] at h0
  unfold parse
  rw [if_neg (by rw [e, hx_len]; omega), e]
  have h0' : num 0 (hx (nd n) n) = some (n : Int) := h0
  rw [h0']
  show (if hexS (n : Int) = _ then _ else _) = _
  rw [if_pos e]
theorem parse_out {l : List UInt8} (h : (parse l).2 = 0) : hexS (parse l).1 = l := by
  unfold parse at h ⊢
  by_cases h1 : l.length < 4 ∨ 6 < l.length
  · rw [if_pos h1] at h; cases h
  · rw [if_neg h1] at h ⊢
    cases hn : num 0 l with
    | none => rw [hn] at h; cases h
    | some c =>
      rw [hn] at h
      by_cases h2 : hexS c = l
      · simp only [if_pos h2]; exact h2
      · simp only [if_neg h2] at h; cases h
theorem hexS_no {c : Int} (h : ¬ (0 ≤ c ∧ c ≤ 1114111)) : hexS c = [] := by unfold hexS; rw [if_neg h]
theorem parse_nil : parse [] = (0, 3) := by unfold parse; rw [if_pos (by simp)]
theorem num_snoc (l : List UInt8) (b : UInt8) (a c : Int) (h : num a l = some c) : num a (l ++ [b]) = if val (b.toNat : Int) < 0 then none else some (c * 16 + val (b.toNat : Int)) := by
  induction l generalizing a with
  | nil => simp [num] at h ⊢; rw [h]
  | cons x l ih =>
    rw [List.cons_append, num]
    rw [num] at h
    by_cases h1 : val (x.toNat : Int) < 0
    · rw [if_pos h1] at h; cases h
    · rw [if_neg h1] at h ⊢; exact ih _ h
theorem num_bad (l m : List UInt8) (b : UInt8) (a : Int) (h : val (b.toNat : Int) < 0) : num a (l ++ b :: m) = none := by
  induction l generalizing a with
  | nil => simp [num, h]
  | cons x l ih =>
    rw [List.cons_append, num]
    split
    · rfl
    · exact ih _
theorem val_bd (b : Int) : -1 ≤ val b ∧ val b ≤ 15 := by
  unfold val
  split
  · omega
  · split <;> omega
theorem num_bd (l : List UInt8) (a c : Int) (h : num a l = some c) (ha : 0 ≤ a) : 0 ≤ c ∧ c < (a + 1) * 16 ^ l.length := by
  induction l generalizing a with
  | nil => simp [num] at h; subst h; simp; omega
  | cons x l ih =>
    rw [num] at h
    by_cases h1 : val (x.toNat : Int) < 0
    · rw [if_pos h1] at h; cases h
    · rw [if_neg h1] at h
      have hv := val_bd (x.toNat : Int)
      obtain ⟨h2, h3⟩ := ih _ h (by omega)
      refine ⟨h2, Int.lt_of_lt_of_le h3 ?_⟩
      rw [List.length_cons, Int.pow_succ, Int.mul_comm (16 ^ l.length) 16, ← Int.mul_assoc]
      exact Int.mul_le_mul_of_nonneg_right (by omega) (Int.pow_nonneg (by omega))
end Go.UtYtogfhaeohcpkjaaDoor
