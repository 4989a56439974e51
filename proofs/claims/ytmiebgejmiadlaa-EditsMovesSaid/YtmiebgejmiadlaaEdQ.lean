/-
  Plain facts on Diff, and on Shift, for the laws EditsTurns and EditsMoves.
-/
import Derived.Test.YtmiebgejmiadlaaLcp
namespace Go.UtYtmiebgejmiadlaa
theorem lcp_le : ∀ (a b : List Int), lcp a b ≤ a.length ∧ lcp a b ≤ b.length
  | [], b => by cases b <;> simp [lcp]
  | _ :: _, [] => by simp [lcp]
  | x :: xs, y :: ys => by
    rw [lcp]
    have := lcp_le xs ys
    split
    · simp only [List.length_cons]; omega
    · simp
theorem lcp_take : ∀ (a b : List Int), a.take (lcp a b) = b.take (lcp a b)
  | [], b => by cases b <;> simp [lcp]
  | _ :: _, [] => by simp [lcp]
  | x :: xs, y :: ys => by
    rw [lcp]
    split
    · rename_i h
      rw [List.take_succ_cons, List.take_succ_cons, h, lcp_take xs ys]
    · simp
theorem lcp_neq : ∀ (a b : List Int), eqAt a b (lcp a b) = false
  | [], b => eqAt_short (by simp)
  | _ :: _, [] => eqAt_short (by simp)
  | x :: xs, y :: ys => by
    rw [lcp]
    split
    · have := lcp_neq xs ys
      unfold eqAt at this ⊢
      simpa using this
    · rename_i h
      unfold eqAt
      simp [h]
theorem lcp_self : ∀ (a : List Int), lcp a a = a.length
  | [] => rfl
  | x :: xs => by rw [lcp, if_pos rfl, lcp_self xs]; rfl
theorem dEnd_le (a b : List Int) : dEnd a b + lcp a b ≤ a.length ∧ dEnd a b + lcp a b ≤ b.length := by
  have h := lcp_le (a.drop (lcp a b)).reverse (b.drop (lcp a b)).reverse
  have h2 := lcp_le a b
  simp only [List.length_reverse, List.length_drop] at h
  unfold dEnd
  omega
theorem dEnd_drop (a b : List Int) : a.drop (a.length - dEnd a b) = b.drop (b.length - dEnd a b) := by
  have hl := dEnd_le a b
  have h := lcp_take (a.drop (lcp a b)).reverse (b.drop (lcp a b)).reverse
  have key : ∀ (l : List Int) (n e : Nat), n + e ≤ l.length → (l.drop n).reverse.take e = (l.drop (l.length - e)).reverse := by
    intro l n e hn
    rw [List.take_reverse]
    congr 1
    rw [List.length_drop, List.drop_drop]
    congr 1
    omega
  have e1 := key a (lcp a b) (dEnd a b) (by omega)
  have e2 := key b (lcp a b) (dEnd a b) (by omega)
  have h' : (a.drop (lcp a b)).reverse.take (dEnd a b) = (b.drop (lcp a b)).reverse.take (dEnd a b) := h
  rw [e1, e2] at h'
  exact List.reverse_inj.1 h'
/-- Diff turns the one into the other -/
theorem diff_turns (a b : List Int) (i d : Nat) (r : List Int) (hi : lcp a b = i) (hd : a.length - dEnd a b - lcp a b = d) (hr : dIns a b = r) :
    i + d ≤ a.length ∧ a.take i ++ r ++ a.drop (i + d) = b := by
  have hl := dEnd_le a b
  have ht := lcp_take a b
  have hD := dEnd_drop a b
  refine ⟨by omega, ?_⟩
  have e : i + d = a.length - dEnd a b := by omega
  rw [e, hD, ← hr, ← hi, ht]
  unfold dIns
  have e3 : (b.drop (lcp a b)).take (b.length - dEnd a b - lcp a b) ++ b.drop (b.length - dEnd a b) = b.drop (lcp a b) := by
    have : b.drop (b.length - dEnd a b) = (b.drop (lcp a b)).drop (b.length - dEnd a b - lcp a b) := by
      rw [List.drop_drop]; congr 1; omega
    rw [this]
    exact List.take_append_drop _ _
  rw [List.append_assoc, e3]
  exact List.take_append_drop _ _
/-- what is replaced begins with different elements -/
theorem diff_first {a b : List Int} {i : Nat} {r : List Int} {x y : Int} (hi : lcp a b = i) (hr : dIns a b = r) (hx : a[i]? = some x) (hy : r[0]? = some y) : (x == y) = false := by
  have hl := dEnd_le a b
  have h := lcp_neq a b
  have : b[lcp a b]? = some y := by
    rw [← hr] at hy
    unfold dIns at hy
    rw [List.getElem?_take] at hy
    split at hy
    · rw [List.getElem?_drop] at hy; exact hy
    · cases hy
  rw [eqAt_yes (hi ▸ hx) this] at h
  exact h
/-- what is replaced ends with different elements -/
theorem diff_last {a b : List Int} {i d p : Nat} {r : List Int} {x y : Int} (hi : lcp a b = i) (hd : a.length - dEnd a b - lcp a b = d) (hr : dIns a b = r) (hp : p + 1 = i + d) (h0 : 0 < d) (hx : a[p]? = some x) (hy : r[r.length - 1]? = some y) : (x == y) = false := by
  have hl := dEnd_le a b
  have h := lcp_neq (a.drop (lcp a b)).reverse (b.drop (lcp a b)).reverse
  have hlen : r.length = b.length - dEnd a b - lcp a b := by
    rw [← hr]; unfold dIns; simp; omega
  have hpos : 0 < r.length := by
    have := (List.getElem?_eq_some_iff.1 hy).1
    omega
  have hb : b[b.length - dEnd a b - 1]? = some y := by
    rw [← hr] at hy
    unfold dIns at hy
    rw [List.getElem?_take] at hy
    split at hy
    · rw [List.getElem?_drop] at hy
      rw [← hy]
      congr 1
      simp
      omega
    · cases hy
  have e1 := rev_at (a := a) (n := lcp a b) (e := dEnd a b) (p := p) (x := x) (by omega) (by omega) hx
  have e2 := rev_at (a := b) (n := lcp a b) (e := dEnd a b) (p := b.length - dEnd a b - 1) (x := y) (by omega) (by omega) hb
  have h' : eqAt (a.drop (lcp a b)).reverse (b.drop (lcp a b)).reverse (dEnd a b) = false := h
  rw [eqAt_yes e1 e2] at h'
  exact h'
theorem diff_same (a : List Int) : lcp a a = a.length ∧ a.length - dEnd a a - lcp a a = 0 ∧ dIns a a = [] := by
  have h := lcp_self a
  refine ⟨h, by omega, ?_⟩
  unfold dIns
  rw [h]
  simp
/-- where a position lies behind an edit -/
def shiftN (i d m p : Nat) : Nat := if p ≤ i then p else if i + d ≤ p then p - d + m else i
theorem shiftN_mono (i d m p : Nat) : shiftN i d m p ≤ shiftN i d m (p + 1) := by
  unfold shiftN
  (repeat' split) <;> omega
theorem shiftN_le (i d m p n : Nat) (h : i + d ≤ n) (hp : p ≤ n) : shiftN i d m p ≤ n - d + m := by
  unfold shiftN
  (repeat' split) <;> omega
theorem shiftN_zero (i d m : Nat) : shiftN i d m 0 = 0 := by unfold shiftN; simp
theorem shiftN_low (i d m p : Nat) (h : p ≤ i) : shiftN i d m p = p := by unfold shiftN; rw [if_pos h]
theorem shiftN_high (i d m p : Nat) (h : i < p) (h2 : i + d ≤ p) : shiftN i d m p = p - d + m := by unfold shiftN; rw [if_neg (by omega), if_pos h2]
theorem moved_low {t ins : List Int} {i d p : Nat} {x : Int} (h : i + d ≤ t.length) (hp : p < i) (hx : t[p]? = some x) : (t.take i ++ ins ++ t.drop (i + d))[p]? = some x := by
  rw [List.append_assoc, List.getElem?_append_left (by simp; omega), List.getElem?_take, if_pos hp]
  exact hx
theorem moved_high {t ins : List Int} {i d p : Nat} {x : Int} (h : i + d ≤ t.length) (hp : i + d ≤ p) (hx : t[p]? = some x) : (t.take i ++ ins ++ t.drop (i + d))[p - d + ins.length]? = some x := by
  rw [List.getElem?_append_right (by simp; omega), List.getElem?_drop, ← hx]
  congr 1
  simp
  omega
end Go.UtYtmiebgejmiadlaa
