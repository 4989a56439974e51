/-
  Plain: what an edit does to a text, the history of a document, the range outside of which boundaries have only moved.
  Plain: which positions a list has; the range outside of which boundaries have only moved, as the two loops find it.
-/
import Derived.Test.YtkpblieanejmeaaEdP
import Derived.Test.YtkpblieanejmeaaBk0
namespace Go.UtYtkpblieanejmeaa
/-- the edited text -/
def apN (i d : Nat) (ins X : List Int) : List Int := X.take i ++ ins ++ X.drop (i + d)
theorem apN_len {i d : Nat} {ins X : List Int} (h : i + d ≤ X.length) : (apN i d ins X).length = X.length - d + ins.length := by
  unfold apN
  simp
  omega
abbrev EdN := Nat × Nat × List Int
/-- the texts before the edits, and the edits that undo them, the last ones at the end -/
def Hist (X : List Int) (U : List EdN) (Bf : List (List Int)) : Prop :=
  U.length = Bf.length ∧ ∀ (k : Nat) (e : EdN), U[k]? = some e → ∃ Y Z, (Bf ++ [X])[k]? = some Z ∧ (Bf ++ [X])[k + 1]? = some Y ∧ e.1 + e.2.1 ≤ Y.length ∧ apN e.1 e.2.1 e.2.2 Y = Z
theorem Hist.nil (X : List Int) : Hist X [] [] := ⟨rfl, fun k e h => by simp at h⟩
theorem Hist.push {X : List Int} {U : List EdN} {Bf : List (List Int)} (h : Hist X U Bf) {i d : Nat} {ins : List Int} (hid : i + d ≤ X.length) : Hist (apN i d ins X) (U ++ [(i, ins.length, (X.drop i).take d)]) (Bf ++ [X]) := by
  refine ⟨by simp [h.1], fun k e hk => ?_⟩
  by_cases hlt : k < U.length
  · rw [List.getElem?_append_left hlt] at hk
    obtain ⟨Y, Z, h1, h2, h3⟩ := h.2 k e hk
    have hl : k + 1 < (Bf ++ [X]).length := by simp; have := h.1; omega
    exact ⟨Y, Z, by rw [List.getElem?_append_left (by omega)]; exact h1, by rw [List.getElem?_append_left hl]; exact h2, h3⟩
  · have hk2 : k = U.length := by
      have := (List.getElem?_eq_some_iff.1 hk).1
      simp at this
      omega
    subst hk2
    rw [List.getElem?_append_right (Nat.le_refl _), Nat.sub_self] at hk
    simp at hk
    subst hk
    refine ⟨apN i d ins X, X, ?_, ?_, ?_, ?_⟩
    · rw [h.1, List.append_assoc, List.getElem?_append_right (Nat.le_refl _), Nat.sub_self]
      rfl
    · rw [h.1, List.getElem?_append_right (by simp)]
      simp
    · rw [apN_len hid]
      simp only
      omega
    · exact undo_text X ins i d hid
theorem Hist.pop {X Y : List Int} {U : List EdN} {Bf : List (List Int)} {e : EdN} (h : Hist X (U ++ [e]) (Bf ++ [Y])) : e.1 + e.2.1 ≤ X.length ∧ apN e.1 e.2.1 e.2.2 X = Y ∧ Hist Y U Bf := by
  have hl : U.length = Bf.length := by have := h.1; simp at this; exact this
  have hlast := h.2 U.length e (by rw [List.getElem?_append_right (Nat.le_refl _), Nat.sub_self]; rfl)
  obtain ⟨X', Y', h1, h2, h3, h4⟩ := hlast
  have e1 : Y' = Y := by
    rw [hl, List.append_assoc, List.getElem?_append_right (Nat.le_refl _), Nat.sub_self] at h1
    simpa using h1.symm
  have e2 : X' = X := by
    rw [hl, List.getElem?_append_right (by simp)] at h2
    simpa using h2.symm
  subst e1 e2
  refine ⟨h3, h4, hl, fun k e' hk => ?_⟩
  have hlt := (List.getElem?_eq_some_iff.1 hk).1
  obtain ⟨P, Z, g1, g2, g3⟩ := h.2 k e' (by rw [List.getElem?_append_left hlt]; exact hk)
  refine ⟨P, Z, ?_, ?_, g3⟩
  · rwa [List.getElem?_append_left (by simp; omega)] at g1
  · rwa [List.getElem?_append_left (by simp; omega)] at g2
theorem Hist.empty {X : List Int} {U : List EdN} {Bf : List (List Int)} (h : Hist X U Bf) : U = [] ↔ Bf = [] := by
  rw [← List.length_eq_zero_iff, ← List.length_eq_zero_iff, h.1]
/-- whether a position is a boundary differs -/
def difN (old now : List Int) (p q : Int) : Prop := ¬ (p ∈ old ↔ q ∈ now)
/-- the least position up to a that differs, or a -/
def IsLo (old now : List Int) (a lo : Nat) : Prop := lo ≤ a ∧ (∀ p : Nat, p < lo → ¬ difN old now p p) ∧ (lo = a ∨ difN old now lo lo)
theorem IsLo.uniq {old now : List Int} {a x y : Nat} (h : IsLo old now a x) (k : IsLo old now a y) : x = y := by
  rcases Nat.lt_trichotomy x y with hl | hl | hl
  · rcases h.2.2 with e | e
    · have := k.1; omega
    · exact absurd e (k.2.1 x hl)
  · exact hl
  · rcases k.2.2 with e | e
    · have := h.1; omega
    · exact absurd e (h.2.1 y hl)
/-- the greatest position behind e, up to n, that differs, or e; sh: how far positions behind an edit have moved -/
def IsHi (old now : List Int) (e n : Nat) (sh : Int) (hi : Nat) : Prop := e ≤ hi ∧ hi ≤ n ∧ (∀ q : Nat, hi < q → q ≤ n → ¬ difN old now ((q : Int) - sh) q) ∧ (hi = e ∨ difN old now ((hi : Int) - sh) hi)
theorem IsHi.uniq {old now : List Int} {e n x y : Nat} {sh : Int} (h : IsHi old now e n sh x) (k : IsHi old now e n sh y) : x = y := by
  rcases Nat.lt_trichotomy x y with hl | hl | hl
  · rcases k.2.2.2 with he | he
    · have := h.1; omega
    · exact absurd he (h.2.2.1 y hl k.2.1)
  · exact hl
  · rcases h.2.2.2 with he | he
    · have := k.1; omega
    · exact absurd he (k.2.2.1 x hl h.2.1)
end Go.UtYtkpblieanejmeaa
namespace Go.UtYtkpblieanejmeaa
/-- for each position up to n: whether a list has it -/
def amB (n : Nat) (l : List Int) : List Bool := (List.range (n + 1)).map fun p : Nat => decide ((p : Int) ∈ l)
theorem amB_len (n : Nat) (l : List Int) : (amB n l).length = n + 1 := by simp [amB]
theorem amB_get {n p : Nat} {l : List Int} (h : p ≤ n) : (amB n l)[p]? = some (decide ((p : Int) ∈ l)) := by
  unfold amB
  rw [List.getElem?_map, List.getElem?_range (by omega)]
  rfl
theorem amB_nil (n : Nat) : amB n [] = List.replicate (n + 1) false := by
  unfold amB
  apply List.ext_getElem?
  intro p
  rw [List.getElem?_map, List.getElem?_replicate]
  by_cases h : p < n + 1
  · rw [List.getElem?_range h, if_pos h]
    simp
  · rw [List.getElem?_eq_none (by simp; omega), if_neg h]
    rfl
theorem amB_step {n k c : Nat} {b : List Int} (hk : b[k]? = some (c : Int)) : (amB n (b.take k)).set c true = amB n (b.take (k + 1)) := by
  obtain ⟨h1, h2⟩ := List.getElem?_eq_some_iff.1 hk
  rw [List.take_succ_eq_append_getElem h1, h2]
  apply List.ext_getElem?
  intro p
  rw [List.getElem?_set]
  by_cases hp : p ≤ n
  · rw [amB_get hp, amB_len]
    by_cases hc : c = p
    · subst hc
      rw [if_pos rfl, if_pos (by omega), amB_get hp, decide_eq_true (List.mem_append_right _ (List.mem_singleton.2 rfl))]
    · rw [if_neg hc, amB_get hp]
      congr 1
      rw [decide_eq_decide, List.mem_append]
      constructor
      · intro h
        exact .inl h
      · rintro (h | h)
        · exact h
        · simp at h
          omega
  · have hn : ∀ l, (amB n l)[p]? = none := fun l => List.getElem?_eq_none (by rw [amB_len]; omega)
    rw [hn, hn, amB_len]
    by_cases hc : c = p
    · rw [if_pos hc, if_neg (by omega)]
    · rw [if_neg hc]
/-- downwards from a: what the reference keeps while positions behind p have been seen -/
def LoDn (old now : List Int) (a p lo : Nat) : Prop := lo ≤ a ∧ p ≤ a + 1 ∧ (∀ q : Nat, p ≤ q → q < lo → ¬ difN old now q q) ∧ (lo = a ∨ difN old now lo lo)
theorem LoDn.start (old now : List Int) (a : Nat) : LoDn old now a (a + 1) a := ⟨Nat.le_refl _, Nat.le_refl _, fun q h1 h2 => by omega, .inl rfl⟩
theorem LoDn.yes {old now : List Int} {a p lo : Nat} (h : LoDn old now a (p + 1) lo) (hd : difN old now p p) : LoDn old now a p p :=
  ⟨by have := h.2.1; omega, by have := h.2.1; omega, fun q h1 h2 => by omega, .inr hd⟩
theorem LoDn.no {old now : List Int} {a p lo : Nat} (h : LoDn old now a (p + 1) lo) (hd : ¬ difN old now p p) : LoDn old now a p lo :=
  ⟨h.1, by have := h.2.1; omega, fun q h1 h2 => by
    rcases Nat.lt_or_ge p q with h3 | h3
    · exact h.2.2.1 q h3 h2
    · have : q = p := by omega
      subst this
      exact hd, h.2.2.2⟩
theorem LoDn.done {old now : List Int} {a lo : Nat} (h : LoDn old now a 0 lo) : IsLo old now a lo := ⟨h.1, fun q hq => h.2.2.1 q (Nat.zero_le _) hq, h.2.2.2⟩
theorem isLo_hit {old now : List Int} {a p : Nat} (h : ∀ q : Nat, q < p → ¬ difN old now q q) (hp : p ≤ a) (hd : difN old now p p) : IsLo old now a p := ⟨hp, h, .inr hd⟩
theorem isLo_miss {old now : List Int} {a : Nat} (h : ∀ q : Nat, q < a → ¬ difN old now q q) : IsLo old now a a := ⟨Nat.le_refl _, h, .inl rfl⟩
/-- upwards from e: what the reference keeps while positions up to q have been seen -/
def HiUp (old now : List Int) (e n : Nat) (sh : Int) (q hi : Nat) : Prop := e ≤ hi ∧ e ≤ n ∧ (hi = e ∨ hi < q) ∧ hi ≤ n ∧ (∀ r : Nat, hi < r → r < q → ¬ difN old now ((r : Int) - sh) r) ∧ (hi = e ∨ difN old now ((hi : Int) - sh) hi)
theorem HiUp.start {old now : List Int} {e n : Nat} {sh : Int} (h : e ≤ n) : HiUp old now e n sh e e := ⟨Nat.le_refl _, h, .inl rfl, h, fun r h1 h2 => by omega, .inl rfl⟩
theorem HiUp.yes {old now : List Int} {e n q hi : Nat} {sh : Int} (h : HiUp old now e n sh q hi) (hq : e ≤ q) (hn : q ≤ n) (hd : difN old now ((q : Int) - sh) q) : HiUp old now e n sh (q + 1) q :=
  ⟨hq, h.2.1, .inr (Nat.lt_succ_self _), hn, fun r h1 h2 => by omega, .inr hd⟩
theorem HiUp.no {old now : List Int} {e n q hi : Nat} {sh : Int} (h : HiUp old now e n sh q hi) (hd : ¬ difN old now ((q : Int) - sh) q) : HiUp old now e n sh (q + 1) hi :=
  ⟨h.1, h.2.1, h.2.2.1.imp id (fun h => by omega), h.2.2.2.1, fun r h1 h2 => by
    rcases Nat.lt_or_ge r q with h3 | h3
    · exact h.2.2.2.2.1 r h1 h3
    · have : r = q := by omega
      subst this
      exact hd, h.2.2.2.2.2⟩
theorem HiUp.done {old now : List Int} {e n hi : Nat} {sh : Int} (h : HiUp old now e n sh (n + 1) hi) : IsHi old now e n sh hi := ⟨h.1, h.2.2.2.1, fun q h1 h2 => h.2.2.2.2.1 q h1 (by omega), h.2.2.2.2.2⟩
theorem isHi_hit {old now : List Int} {e n q : Nat} {sh : Int} (h : ∀ r : Nat, q < r → r ≤ n → ¬ difN old now ((r : Int) - sh) r) (he : e ≤ q) (hn : q ≤ n) (hd : difN old now ((q : Int) - sh) q) : IsHi old now e n sh q := ⟨he, hn, h, .inr hd⟩
theorem isHi_miss {old now : List Int} {e n : Nat} {sh : Int} (h : ∀ r : Nat, e < r → r ≤ n → ¬ difN old now ((r : Int) - sh) r) (he : e ≤ n) : IsHi old now e n sh e := ⟨Nat.le_refl _, he, h, .inl rfl⟩
end Go.UtYtkpblieanejmeaa
