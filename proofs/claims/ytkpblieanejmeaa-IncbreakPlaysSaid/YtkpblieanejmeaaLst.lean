/-
  Slices of slices of integers, in memory; how such an argument is opened.
-/
import Derived.Test.YtkpblieanejmeaaBase
import Derived.Test.YtkpblieanejmeaaApp
import Derived.Test.YtkpblieanejmeaaLift
import Derived.Deep.Slices
namespace Go.UtYtkpblieanejmeaa
open Go.RowKit
/-- The slice at A holds slices that read as the lists xss. -/
def Rows2 (w : World) (B : Nat) (A : Option Addr) (xss : List (List Int)) : Prop :=
  ∃ vs : List Value, vs.length = xss.length ∧ Row w B A vs ∧ ∀ (k : Nat) (xs : List Int), xss[k]? = some xs → ∃ (A' : Option Addr) (c' : Nat), vs[k]? = some (Value.slice A' xs.length c') ∧ xs.length ≤ c' ∧ c' ≤ maxLen ∧ Row w B A' (ints xs)
section
variable {w w' : World} {B B' : Nat} {A : Option Addr} {xss : List (List Int)}
theorem Rows2.below (h : Rows2 w B A xss) (hb : Below B w w') : Rows2 w' B A xss := by
  obtain ⟨vs, h1, h2, h3⟩ := h
  exact ⟨vs, h1, h2.below hb, fun k xs hk => by
    obtain ⟨A', c', a1, a2, a3, a4⟩ := h3 k xs hk
    exact ⟨A', c', a1, a2, a3, a4.below hb⟩⟩
theorem Rows2.lt (h : Rows2 w B A xss) : Rows2 w w.heap.size A xss := by
  obtain ⟨vs, h1, h2, h3⟩ := h
  exact ⟨vs, h1, h2.lt, fun k xs hk => by
    obtain ⟨A', c', a1, a2, a3, a4⟩ := h3 k xs hk
    exact ⟨A', c', a1, a2, a3, a4.lt⟩⟩
theorem Rows2.nil : Rows2 w B A [] := ⟨[], rfl, Row.nil, fun k xs h => by simp at h⟩
theorem Rows2.at_ (h : Rows2 w B A xss) {k : Nat} (hk : k < xss.length) : ∃ b o A' c' xs, A = some ⟨b, o, none⟩ ∧ b < B ∧ Hid (xss[k]? = some xs) ∧ w.cell? ⟨b, o + k, none⟩ = some (.slice A' xs.length c') ∧ xs.length ≤ c' ∧ c' ≤ maxLen ∧ Row w B A' (ints xs) := by
  obtain ⟨vs, h1, h2, h3⟩ := h
  obtain ⟨b, o, v, e, hb, hv, hc⟩ := h2.at_ (k := k) (by omega)
  obtain ⟨A', c', a1, a2, a3, a4⟩ := h3 k xss[k] (List.getElem?_eq_getElem hk)
  have : v = .slice A' xss[k].length c' := Option.some.inj (hv.symm.trans a1)
  subst this
  exact ⟨b, o, A', c', xss[k], e, hb, List.getElem?_eq_getElem hk, hc, a2, a3, a4⟩
end
section
open Go.ChangeShapes Go.WideShapes Go.Deep
variable {H : Type} {enc : TypeId × Value → H} {P : Program}
/-- a slice whose elements take one cell, as an argument or a field: element by element -/
theorem open_list1 {α : Type} (R : Value → α → Prop) {w : World} {base : Nat} {t e : TypeId} {fuel : Nat} {v : Value} {x : DataW H × List MemPlace} (ht : P.underlying t = some (.slice e)) (hc : P.cellsOf e = 1)
    (hR : ∀ (n : Nat) (v : Value) (x : DataW H × List MemPlace), DataW.trod enc P w base (fun _ => true) true n e [v] = some x → ∃ a, R v a)
    (h : DataW.trod enc P w base (fun _ => true) true fuel t [v] = some x) :
    ∃ (A : Option Addr) (c : Nat) (xs : List α) (vs : List Value), v = .slice A xs.length c ∧ xs.length ≤ c ∧ c ≤ maxLen ∧ vs.length = xs.length ∧ Row w w.heap.size A vs ∧ ∀ (k : Nat) (a : α), xs[k]? = some a → ∃ v : Value, vs[k]? = some v ∧ R v a := by
  rcases open_slice1 ht hc h with ⟨h0, _⟩ | ⟨a, len, cap, m, fu, V, D, Pl, hcs, hb, hl, hm, hmm, hx, hel⟩
  · injection h0 with h0
    subst h0
    exact ⟨none, 0, [], [], rfl, by simp, by simp [maxLen], rfl, Row.nil, fun k a h => by simp at h⟩
  · injection hcs with hcs
    subst hcs
    simp only [if_true] at hmm
    have hex : ∀ k, k < len → ∃ a, R (V k) a := fun k hk => hR _ _ _ (hel k (by omega)).2
    have hsp : 0 < len → a.spot = none := fun hpos => by
      have h1 := (hel 0 (by omega)).1
      have h01 : w.cell? a = some (V 0) := by simpa [Addr.add] using h1
      unfold World.cell? at h01
      split at h01
      · split at h01
        · cases h01
        · rename_i hsp
          cases hsp' : a.spot with
          | none => rfl
          | some z => rw [hsp'] at hsp; simp at hsp
      · cases h01
    have hlist : ∀ n, n ≤ len → ∃ xs : List α, xs.length = n ∧ ∀ (k : Nat) (a : α), xs[k]? = some a → R (V k) a := by
      intro n
      induction n with
      | zero => exact fun _ => ⟨[], rfl, fun k a h => by simp at h⟩
      | succ n ih =>
        intro hn
        obtain ⟨xs, h1, h2⟩ := ih (by omega)
        obtain ⟨y, hy⟩ := hex n (by omega)
        refine ⟨xs ++ [y], by simp [h1], fun k a hk => ?_⟩
        rcases Nat.lt_trichotomy k n with h3 | h3 | h3
        · rw [List.getElem?_append_left (by omega)] at hk
          exact h2 k a hk
        · subst h3
          rw [List.getElem?_append_right (by omega), h1, Nat.sub_self] at hk
          simp at hk
          exact hk ▸ hy
        · rw [List.getElem?_eq_none (by simp; omega)] at hk
          cases hk
    obtain ⟨xs, h1, h2⟩ := hlist len (Nat.le_refl _)
    refine ⟨some a, cap, xs, (List.range len).map V, by rw [h1], by omega, hm, by simp [h1], fun hne => ?_, fun k y hk => ?_⟩
    · have hpos : 0 < len := by
        rcases Nat.eq_zero_or_pos len with h0 | h0
        · subst h0; simp at hne
        · exact h0
      obtain ⟨b, o, sp⟩ := a
      have := hsp hpos
      simp only at this
      subst this
      refine ⟨b, o, rfl, ?_, fun k v hk => ?_⟩
      · exact World.block_lt_of_cell? w _ (by simpa [Addr.add] using (hel 0 (by omega)).1)
      · have hk2 : k < len := by
          have := (List.getElem?_eq_some_iff.1 hk).1
          simpa using this
        have h1 := (hel k (by omega)).1
        simp [List.getElem?_range hk2] at hk
        rw [← hk]
        unfold Addr.add at h1
        by_cases h0 : k = 0
        · subst h0; simpa using h1
        · simpa [h0] using h1
    · have hk2 : k < len := by
        have := (List.getElem?_eq_some_iff.1 hk).1
        omega
      exact ⟨V k, by simp [List.getElem?_range hk2], h2 k y hk⟩
/-- a slice of slices of integers, as an argument or a field -/
theorem open_rows2 {w : World} {base : Nat} {t e i : TypeId} {fuel : Nat} {v : Value} {x : DataW H × List MemPlace} (ht : P.underlying t = some (.slice e)) (hc : P.cellsOf e = 1) (he : P.underlying e = some (.slice i)) (hi : P.underlying i = some (.int .i64)) (hci : P.cellsOf i = 1)
    (h : DataW.trod enc P w base (fun _ => true) true fuel t [v] = some x) :
    ∃ (A : Option Addr) (c : Nat) (xss : List (List Int)), v = .slice A xss.length c ∧ xss.length ≤ c ∧ c ≤ maxLen ∧ Rows2 w w.heap.size A xss := by
  obtain ⟨A, c, xs, vs, h1, h2, h3, h4, h5, h6⟩ := open_list1 (fun v (xs : List Int) => ∃ A' c', v = .slice A' xs.length c' ∧ xs.length ≤ c' ∧ c' ≤ maxLen ∧ Row w w.heap.size A' (ints xs)) ht hc
    (fun n v x hx => by
      obtain ⟨A', c', xs, e1, e2, e3, e4, _⟩ := open_row he hi hci hx
      exact ⟨xs, A', c', e1, e2, e3, e4⟩) h
  refine ⟨A, c, xs, h1, h2, h3, vs, h4, h5, fun k ys hk => ?_⟩
  obtain ⟨v, g1, A', c', g2, g3, g4, g5⟩ := h6 k ys hk
  exact ⟨A', c', by rw [g1, g2], g3, g4, g5⟩
end
end Go.UtYtkpblieanejmeaa
