/-
  Sets of code points as lists of ranges: plain lists.
-/
namespace Go.UtYtledbiabdiijhaa
abbrev Rg := Int × Int
/-- some range holds c -/
def memR (l : List Rg) (c : Int) : Prop := ∃ r ∈ l, r.1 ≤ c ∧ c ≤ r.2
def codeP (c : Int) : Prop := 0 ≤ c ∧ c ≤ 1114111
/-- what a set holds -/
def hasP (l : List Rg) (c : Int) : Prop := codeP c ∧ memR l c
instance (c : Int) : Decidable (codeP c) := by unfold codeP; infer_instance
instance (l : List Rg) (c : Int) : Decidable (memR l c) := by unfold memR; infer_instance
instance (l : List Rg) (c : Int) : Decidable (hasP l c) := by unfold hasP; infer_instance
def CanFrom (lo : Int) : List Rg → Prop
  | [] => True
  | r :: l => lo ≤ r.1 ∧ r.1 ≤ r.2 ∧ r.2 ≤ 1114111 ∧ CanFrom (r.2 + 2) l
/-- a valid set -/
def Cnn (l : List Rg) : Prop := CanFrom 0 l
theorem CanFrom.mono {lo lo' : Int} {l : List Rg} (h : CanFrom lo l) (hl : lo' ≤ lo) : CanFrom lo' l := by
  cases l with
  | nil => trivial
  | cons r l => exact ⟨by have := h.1; omega, h.2⟩
theorem CanFrom.ge {lo : Int} {l : List Rg} (h : CanFrom lo l) {c : Int} (hc : memR l c) : lo ≤ c ∧ c ≤ 1114111 := by
  induction l generalizing lo with
  | nil => obtain ⟨r, hr, _⟩ := hc; cases hr
  | cons r l ih =>
    obtain ⟨h1, h2, h3, h4⟩ := h
    obtain ⟨s, hs, h5, h6⟩ := hc
    rcases List.mem_cons.1 hs with rfl | hs
    · omega
    · have := ih h4 ⟨s, hs, h5, h6⟩
      omega
theorem can_has {l : List Rg} (h : Cnn l) (c : Int) : hasP l c ↔ memR l c :=
  ⟨fun h => h.2, fun hm => ⟨by have := CanFrom.ge h hm; exact this, hm⟩⟩
theorem memR_cons {r : Rg} {l : List Rg} {c : Int} : memR (r :: l) c ↔ (r.1 ≤ c ∧ c ≤ r.2) ∨ memR l c := by
  simp [memR]
theorem memR_nil {c : Int} : ¬ memR [] c := by simp [memR]
theorem memR_append {a b : List Rg} {c : Int} : memR (a ++ b) c ↔ memR a c ∨ memR b c := by
  simp only [memR, List.mem_append]
  constructor
  · rintro ⟨r, h | h, h2⟩
    · exact .inl ⟨r, h, h2⟩
    · exact .inr ⟨r, h, h2⟩
  · rintro (⟨r, h, h2⟩ | ⟨r, h, h2⟩)
    · exact ⟨r, .inl h, h2⟩
    · exact ⟨r, .inr h, h2⟩
theorem can_unique {lo : Int} {a b : List Rg} (ha : CanFrom lo a) (hb : CanFrom lo b) (h : ∀ c, memR a c ↔ memR b c) : a = b := by
  induction a generalizing lo b with
  | nil =>
    cases b with
    | nil => rfl
    | cons s b => exact absurd ((h s.1).2 (memR_cons.2 (.inl ⟨Int.le_refl _, hb.2.1⟩))) memR_nil
  | cons r a ih =>
    cases b with
    | nil => exact absurd ((h r.1).1 (memR_cons.2 (.inl ⟨Int.le_refl _, ha.2.1⟩))) memR_nil
    | cons s b =>
      obtain ⟨a1, a2, a3, a4⟩ := ha
      obtain ⟨b1, b2, b3, b4⟩ := hb
      have e1 : s.1 ≤ r.1 := by
        rcases memR_cons.1 ((h r.1).1 (memR_cons.2 (.inl ⟨Int.le_refl _, a2⟩))) with h1 | h1
        · exact h1.1
        · have := (CanFrom.ge b4 h1).1; omega
      have e2 : r.1 ≤ s.1 := by
        rcases memR_cons.1 ((h s.1).2 (memR_cons.2 (.inl ⟨Int.le_refl _, b2⟩))) with h1 | h1
        · exact h1.1
        · have := (CanFrom.ge a4 h1).1; omega
      have e3 : s.2 ≤ r.2 := by
        rcases Int.lt_or_le r.2 s.2 with h0 | h0
        · rcases memR_cons.1 ((h (r.2 + 1)).2 (memR_cons.2 (.inl ⟨by omega, by omega⟩))) with h1 | h1
          · omega
          · have := (CanFrom.ge a4 h1).1; omega
        · exact h0
      have e4 : r.2 ≤ s.2 := by
        rcases Int.lt_or_le s.2 r.2 with h0 | h0
        · rcases memR_cons.1 ((h (s.2 + 1)).1 (memR_cons.2 (.inl ⟨by omega, by omega⟩))) with h1 | h1
          · omega
          · have := (CanFrom.ge b4 h1).1; omega
        · exact h0
      have er : r = s := by
        obtain ⟨r1, r2⟩ := r
        obtain ⟨s1, s2⟩ := s
        simp only at e1 e2 e3 e4
        rw [show r1 = s1 by omega, show r2 = s2 by omega]
      subst er
      rw [ih a4 b4 (fun c => ?_)]
      constructor
      · intro hc
        have := (CanFrom.ge a4 hc).1
        rcases memR_cons.1 ((h c).1 (memR_cons.2 (.inr hc))) with h1 | h1
        · omega
        · exact h1
      · intro hc
        have := (CanFrom.ge b4 hc).1
        rcases memR_cons.1 ((h c).2 (memR_cons.2 (.inr hc))) with h1 | h1
        · omega
        · exact h1
theorem can_eq {a b : List Rg} (ha : Cnn a) (hb : Cnn b) (h : ∀ c, hasP a c ↔ hasP b c) : a = b :=
  can_unique ha hb fun c => (can_has ha c).symm.trans ((h c).trans (can_has hb c))
end Go.UtYtledbiabdiijhaa
