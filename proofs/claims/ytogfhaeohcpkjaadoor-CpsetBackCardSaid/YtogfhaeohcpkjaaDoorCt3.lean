/-
  How many code points a set has: plain lists.
-/
import Derived.Test.YtogfhaeohcpkjaaDoorCt0
namespace Go.UtYtogfhaeohcpkjaaDoor
def hasB (l : List Rg) (k : Nat) : Bool := decide (hasP l (k : Int))
/-- the number of elements of a set -/
def cardS (l : List Rg) : Int := (cardP (hasB l) 1114112 : Int)
theorem count_card {r l : List Rg} (hr : Cnn r) (hh : ∀ x, hasP r x ↔ hasP l x) : cntR r = cardS l := by
  rw [cnt_card hr (Int.le_refl _)]
  unfold cardS
  rw [cardP_congr (fun k _ => show memB r k = hasB l k from decide_eq_decide.2 ((can_has hr _).symm.trans (hh _)))]
theorem cardP_le (p : Nat → Bool) (n : Nat) : cardP p n ≤ n := by
  induction n with
  | zero => exact Nat.le_refl _
  | succ n ih => rw [cardP]; split <;> omega
theorem cardS_bd (l : List Rg) : 0 ≤ cardS l ∧ cardS l ≤ 1114112 := by
  have := cardP_le (hasB l) 1114112
  unfold cardS
  omega
theorem cardS_sub {a b : List Rg} (h : ∀ x, hasP a x → hasP b x) : cardS a ≤ cardS b := by
  unfold cardS
  have := cardP_mono (p := hasB a) (q := hasB b) (n := 1114112) (fun k _ hk => decide_eq_true (h _ (of_decide_eq_true hk)))
  omega
theorem cardS_oa {a b o n : List Rg} (ho : ∀ x, hasP o x ↔ (hasP a x ∨ hasP b x)) (hn : ∀ x, hasP n x ↔ (hasP a x ∧ hasP b x)) : cardS a + cardS b = cardS o + cardS n := by
  have h := cardP_or_and (hasB a) (hasB b) 1114112
  have e1 : cardP (hasB o) 1114112 = cardP (fun k => hasB a k || hasB b k) 1114112 := cardP_congr (fun k _ => by
    unfold hasB
    have := ho (k : Int)
    by_cases h1 : hasP a (k : Int) <;> by_cases h2 : hasP b (k : Int) <;> simp [h1, h2, this])
  have e2 : cardP (hasB n) 1114112 = cardP (fun k => hasB a k && hasB b k) 1114112 := cardP_congr (fun k _ => by
    unfold hasB
    have := hn (k : Int)
    by_cases h1 : hasP a (k : Int) <;> by_cases h2 : hasP b (k : Int) <;> simp [h1, h2, this])
  unfold cardS
  omega
/-- the i-th element, and how many are below it -/
theorem nth_card {r l : List Rg} (hr : Cnn r) (hh : ∀ x, hasP r x ↔ hasP l x) {i : Int} (h0 : 0 ≤ i) : (i < cardS l → ∃ c : Nat, nthR r i = ((c : Int), true) ∧ hasP l (c : Int) ∧ (cardP (hasB l) c : Int) = i) ∧ (cardS l ≤ i → nthR r i = (0, false)) := by
  have e := count_card hr hh
  refine ⟨fun h => ?_, fun h => nth_no hr (by omega)⟩
  obtain ⟨c, h1, h2, h3⟩ := nth_yes hr (Int.le_refl _) h0 (by omega)
  refine ⟨c, h1, (hh _).1 ((can_has hr _).2 h2), ?_⟩
  rw [← h3, cardP_congr (fun k _ => show hasB l k = memB r k from (decide_eq_decide.2 ((can_has hr _).symm.trans (hh _))).symm)]
theorem nth_same {r r' l : List Rg} (hr : Cnn r) (hh : ∀ x, hasP r x ↔ hasP l x) (hr' : Cnn r') (hh' : ∀ x, hasP r' x ↔ hasP l x) : r = r' := can_eq hr hr' fun x => (hh x).trans (hh' x).symm
/-- the elements below c, counted as a set -/
theorem card_below {l m : List Rg} {c : Nat} (hc : c ≤ 1114111) (hm : ∀ x, hasP m x ↔ (hasP l x ∧ x < (c : Int))) : cardS m = (cardP (hasB l) c : Int) := by
  unfold cardS
  have e1 : cardP (hasB m) 1114112 = cardP (hasB m) c := cardP_ext (by omega) (fun k h1 h2 => decide_eq_false (fun h => by have := ((hm _).1 h).2; omega))
  rw [e1, cardP_congr (fun k hk => show hasB m k = hasB l k from decide_eq_decide.2 ((hm _).trans ⟨fun h => h.1, fun h => ⟨h, by omega⟩⟩))]
end Go.UtYtogfhaeohcpkjaaDoor
