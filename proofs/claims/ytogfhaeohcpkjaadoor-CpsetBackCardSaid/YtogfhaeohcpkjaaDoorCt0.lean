/-
  How many code points a set has, and which is the i-th: plain lists.
-/
import Derived.Test.YtogfhaeohcpkjaaDoorCs1
namespace Go.UtYtogfhaeohcpkjaaDoor
def cardP (p : Nat → Bool) : Nat → Nat
  | 0 => 0
  | n + 1 => cardP p n + if p n then 1 else 0
theorem cardP_congr {p q : Nat → Bool} {n : Nat} (h : ∀ k, k < n → p k = q k) : cardP p n = cardP q n := by
  induction n with
  | zero => rfl
  | succ n ih => rw [cardP, cardP, ih (fun k hk => h k (by omega)), h n (by omega)]
theorem cardP_mono {p q : Nat → Bool} {n : Nat} (h : ∀ k, k < n → p k = true → q k = true) : cardP p n ≤ cardP q n := by
  induction n with
  | zero => exact Nat.le_refl _
  | succ n ih =>
    have h1 := ih (fun k hk => h k (by omega))
    have h2 := h n (by omega)
    rw [cardP, cardP]
    cases hp : p n with
    | false => simp; omega
    | true => simp [h2 hp]; omega
theorem cardP_or_and (p q : Nat → Bool) (n : Nat) : cardP (fun k => p k || q k) n + cardP (fun k => p k && q k) n = cardP p n + cardP q n := by
  induction n with
  | zero => rfl
  | succ n ih =>
    simp only [cardP]
    rcases Bool.eq_false_or_eq_true (p n) with h | h <;> rcases Bool.eq_false_or_eq_true (q n) with h' | h' <;> simp [h, h'] <;> omega
theorem cardP_none {p : Nat → Bool} {n : Nat} (h : ∀ k, k < n → p k = false) : cardP p n = 0 := by
  induction n with
  | zero => rfl
  | succ n ih => rw [cardP, ih (fun k hk => h k (by omega)), h n (by omega)]; rfl
theorem cardP_disj {p q : Nat → Bool} {n : Nat} (h : ∀ k, k < n → ¬ (p k = true ∧ q k = true)) : cardP (fun k => p k || q k) n = cardP p n + cardP q n := by
  have h1 := cardP_or_and p q n
  have h2 : cardP (fun k => p k && q k) n = 0 := cardP_none (fun k hk => by
    have := h k hk
    cases hp : p k <;> cases hq : q k <;> simp_all)
  omega
theorem cardP_range (lo hi n : Nat) : cardP (fun k => decide (lo ≤ k ∧ k ≤ hi)) n = min n (hi + 1) - lo := by
  induction n with
  | zero => simp [cardP]
  | succ n ih =>
    rw [cardP, ih]
    by_cases h : lo ≤ n ∧ n ≤ hi
    · simp [h]; omega
    · simp [h]; omega
theorem cardP_ext {p : Nat → Bool} {m n : Nat} (hm : m ≤ n) (h : ∀ k, m ≤ k → k < n → p k = false) : cardP p n = cardP p m := by
  induction n with
  | zero => rw [show m = 0 by omega]
  | succ n ih =>
    by_cases e : m = n + 1
    · rw [e]
    · rw [cardP, ih (by omega) (fun k h1 h2 => h k h1 (by omega)), h n (by omega) (by omega)]
      rfl
/-- how many numbers ranges have -/
def cntR (l : List Rg) : Int := (l.map fun r => r.2 - r.1 + 1).sum
def sizeR (r : Rg) : Int := r.2 - r.1 + 1
theorem cntR_nil : cntR [] = 0 := rfl
theorem cntR_cons (r : Rg) (l : List Rg) : cntR (r :: l) = r.2 - r.1 + 1 + cntR l := by simp [cntR]
theorem cntR_snoc (l : List Rg) (r : Rg) : cntR (l ++ [r]) = cntR l + (r.2 - r.1 + 1) := by simp [cntR]
theorem cntR_bd {l : List Rg} (h : ∀ r ∈ l, inside r) : 0 ≤ cntR l ∧ cntR l ≤ l.length * 1114112 := by
  induction l with
  | nil => simp [cntR]
  | cons r l ih =>
    have h1 := h r (by simp)
    have h2 := ih (fun s hs => h s (by simp [hs]))
    unfold inside at h1
    rw [cntR_cons]
    simp only [List.length_cons]
    omega
def memB (l : List Rg) (k : Nat) : Bool := decide (memR l (k : Int))
theorem memB_cons (r : Rg) (l : List Rg) (k : Nat) : memB (r :: l) k = (decide (r.1 ≤ (k : Int) ∧ (k : Int) ≤ r.2) || memB l k) := by
  unfold memB
  rw [Bool.eq_iff_iff, Bool.or_eq_true, decide_eq_true_iff, decide_eq_true_iff, decide_eq_true_iff]
  exact memR_cons
theorem mem_one {lo : Int} {r : Rg} {l : List Rg} (h : CanFrom lo (r :: l)) (k : Nat) : ¬ (decide (r.1 ≤ (k : Int) ∧ (k : Int) ≤ r.2) = true ∧ memB l k = true) := by
  rintro ⟨h1, h2⟩
  have h1 := of_decide_eq_true h1
  have h2 := (CanFrom.ge h.2.2.2 (of_decide_eq_true h2)).1
  omega
theorem one_card {r : Rg} (h0 : 0 ≤ r.1) (n : Nat) : (cardP (fun k => decide (r.1 ≤ (k : Int) ∧ (k : Int) ≤ r.2)) n : Int) = max 0 (min (n : Int) (r.2 + 1) - r.1) := by
  by_cases h : 0 ≤ r.2
  · have e : cardP (fun k => decide (r.1 ≤ (k : Int) ∧ (k : Int) ≤ r.2)) n = cardP (fun k => decide (r.1.toNat ≤ k ∧ k ≤ r.2.toNat)) n := cardP_congr (fun k _ => by
      rw [decide_eq_decide]; omega)
    rw [e, cardP_range]
    omega
  · rw [cardP_none (fun k _ => decide_eq_false (by omega))]
    omega
theorem cnt_card {lo : Int} {l : List Rg} (h : CanFrom lo l) (h0 : 0 ≤ lo) : cntR l = (cardP (memB l) 1114112 : Int) := by
  induction l generalizing lo with
  | nil =>
    have e : cardP (memB []) 1114112 = 0 := cardP_none (fun k _ => decide_eq_false memR_nil)
    rw [cntR_nil, e]
    rfl
  | cons r l ih =>
    have hh := h
    obtain ⟨h1, h2, h3, h4⟩ := h
    have e : cardP (memB (r :: l)) 1114112 = cardP (fun k => decide (r.1 ≤ (k : Int) ∧ (k : Int) ≤ r.2) || memB l k) 1114112 := cardP_congr (fun k _ => memB_cons r l k)
    rw [cntR_cons, ih h4 (by omega), e, cardP_disj (fun k _ => mem_one hh k)]
    have := one_card (r := r) (by omega) 1114112
    omega
def nthR : List Rg → Int → Int × Bool
  | [], _ => (0, false)
  | r :: l, i => if i < r.2 - r.1 + 1 then (r.1 + i, true) else nthR l (i - (r.2 - r.1 + 1))
theorem cntR_ge {lo : Int} {l : List Rg} (h : CanFrom lo l) : 0 ≤ cntR l := by
  induction l generalizing lo with
  | nil => exact Int.le_refl _
  | cons r l ih => have := ih h.2.2.2; have := h.2.1; rw [cntR_cons]; omega
theorem nth_no {lo : Int} {l : List Rg} (h : CanFrom lo l) {i : Int} (hi : cntR l ≤ i) : nthR l i = (0, false) := by
  induction l generalizing lo i with
  | nil => rfl
  | cons r l ih =>
    have := cntR_ge h.2.2.2
    rw [cntR_cons] at hi
    rw [nthR, if_neg (by omega)]
    exact ih h.2.2.2 (by omega)
theorem nth_yes {lo : Int} {l : List Rg} (h : CanFrom lo l) (h0 : 0 ≤ lo) {i : Int} (hi0 : 0 ≤ i) (hi : i < cntR l) : ∃ c : Nat, nthR l i = ((c : Int), true) ∧ memR l (c : Int) ∧ (cardP (memB l) c : Int) = i := by
  induction l generalizing lo i with
  | nil => rw [cntR_nil] at hi; omega
  | cons r l ih =>
    have hh := h
    obtain ⟨h1, h2, h3, h4⟩ := h
    rw [cntR_cons] at hi
    rw [nthR]
    by_cases hc : i < r.2 - r.1 + 1
    · rw [if_pos hc]
      obtain ⟨c, hce⟩ := Int.eq_ofNat_of_zero_le (show 0 ≤ r.1 + i by omega)
      refine ⟨c, by rw [hce], memR_cons.2 (.inl ⟨by omega, by omega⟩), ?_⟩
      have e : cardP (memB (r :: l)) c = cardP (fun k => decide (r.1 ≤ (k : Int) ∧ (k : Int) ≤ r.2)) c := cardP_congr (fun k hk => by
        rw [memB_cons]
        have : memB l k = false := decide_eq_false (fun hm => by have := (CanFrom.ge h4 hm).1; omega)
        rw [this, Bool.or_false])
      rw [e, one_card (by omega)]
      omega
    · rw [if_neg hc]
      obtain ⟨c, g1, g2, g3⟩ := ih h4 (by omega) (i := i - (r.2 - r.1 + 1)) (by omega) (by omega)
      refine ⟨c, g1, memR_cons.2 (.inr g2), ?_⟩
      have hge := (CanFrom.ge h4 g2).1
      have e : cardP (memB (r :: l)) c = cardP (fun k => decide (r.1 ≤ (k : Int) ∧ (k : Int) ≤ r.2) || memB l k) c := cardP_congr (fun k _ => memB_cons r l k)
      rw [e, cardP_disj (fun k _ => mem_one hh k)]
      have := one_card (r := r) (by omega) c
      omega
end Go.UtYtogfhaeohcpkjaaDoor
