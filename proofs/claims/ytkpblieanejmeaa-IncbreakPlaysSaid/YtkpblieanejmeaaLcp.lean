/-
  The longest common beginning of two lists; plain mathematics.
-/
namespace Go.UtYtkpblieanejmeaa
def lcp : List Int → List Int → Nat
  | x :: xs, y :: ys => if x = y then lcp xs ys + 1 else 0
  | _, _ => 0
/-- both lists go on with the same element -/
def eqAt (a b : List Int) (k : Nat) : Bool := decide (k < a.length ∧ k < b.length ∧ a[k]? = b[k]?)
theorem eqAt_yes {a b : List Int} {k : Nat} {x y : Int} (hx : a[k]? = some x) (hy : b[k]? = some y) : eqAt a b k = (x == y) := by
  obtain ⟨h1, -⟩ := List.getElem?_eq_some_iff.1 hx
  obtain ⟨h2, -⟩ := List.getElem?_eq_some_iff.1 hy
  unfold eqAt
  rw [hx, hy]
  by_cases h : x = y <;> simp [h, h1, h2]
theorem eqAt_short {a b : List Int} {k : Nat} (h : ¬ (k < a.length ∧ k < b.length)) : eqAt a b k = false := by
  unfold eqAt
  rw [decide_eq_false_iff_not]
  intro h'
  exact h ⟨h'.1, h'.2.1⟩
theorem drop_of {xs : List Int} {k : Nat} {x : Int} (h : xs[k]? = some x) : xs.drop k = x :: xs.drop (k + 1) := by
  obtain ⟨hk, rfl⟩ := List.getElem?_eq_some_iff.1 h
  exact List.drop_eq_getElem_cons hk
theorem lcp_step {a b : List Int} {k n : Nat} (h : eqAt a b k = true) (hr : k + lcp (a.drop k) (b.drop k) = n) : k + 1 + lcp (a.drop (k + 1)) (b.drop (k + 1)) = n := by
  have h' := of_decide_eq_true h
  obtain ⟨h1, h2, h3⟩ := h'
  have e1 := List.getElem?_eq_getElem h1
  have e2 : b[k]? = some a[k] := by rw [← h3, e1]
  rw [drop_of e1, drop_of e2, lcp, if_pos rfl] at hr
  omega
theorem lcp_stop {a b : List Int} {k n : Nat} (h : eqAt a b k = false) (hr : k + lcp (a.drop k) (b.drop k) = n) : k = n := by
  have : lcp (a.drop k) (b.drop k) = 0 := by
    by_cases h1 : k < a.length
    · by_cases h2 : k < b.length
      · rw [List.drop_eq_getElem_cons h1, List.drop_eq_getElem_cons h2, lcp, if_neg]
        intro e
        rw [eqAt_yes (List.getElem?_eq_getElem h1) (List.getElem?_eq_getElem h2)] at h
        rw [e] at h
        simp at h
      · rw [List.drop_eq_nil_of_le (as := b) (by omega)]
        cases a.drop k <;> rfl
    · rw [List.drop_eq_nil_of_le (as := a) (by omega)]
      rfl
  omega
theorem eqAt_lt {a b : List Int} {k : Nat} (h : eqAt a b k = true) : k < a.length ∧ k < b.length := by
  have h' := of_decide_eq_true h
  exact ⟨h'.1, h'.2.1⟩
/-- what a Diff says: where, how much of the one, what of the other -/
def dAt (a b : List Int) : Nat := lcp a b
def dEnd (a b : List Int) : Nat := lcp (a.drop (lcp a b)).reverse (b.drop (lcp a b)).reverse
def dIns (a b : List Int) : List Int := (b.drop (lcp a b)).take (b.length - dEnd a b - lcp a b)
/-- the element that the second loop looks at -/
theorem rev_at {a : List Int} {n e p : Nat} {x : Int} (hp : p + 1 + e = a.length) (hn : n ≤ p) (h : a[p]? = some x) : (a.drop n).reverse[e]? = some x := by
  rw [List.getElem?_reverse (by simp; omega), List.getElem?_drop, ← h]
  congr 1
  simp
  omega
end Go.UtYtkpblieanejmeaa
