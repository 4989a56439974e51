/-
  Sets of code points as lists of ranges: plain lists.
  Sets of code points: how Make merges sorted ranges; plain lists.
-/

namespace Go.UtYtjohoohdjlajcaa
abbrev Rg := Int × Int
/-- some range holds c -/
def memR (l : List Rg) (c : Int) : Prop := ∃ r ∈ l, r.1 ≤ c ∧ c ≤ r.2
def codeP (c : Int) : Prop := 0 ≤ c ∧ c ≤ 1114111
/-- what a set holds -/
def hasP (l : List Rg) (c : Int) : Prop := codeP c ∧ memR l c
instance (c : Int) : Decidable (codeP c) := by unfold codeP; infer_instance
instance (l : List Rg) (c : Int) : Decidable (memR l c) := by unfold memR; infer_instance
instance (l : List Rg) (c : Int) : Decidable (hasP l c) := by unfold hasP; infer_instance
def CanFrom (lo : Int) : List Rg → Prop
  | [] => True
  | r :: l => lo ≤ r.1 ∧ r.1 ≤ r.2 ∧ r.2 ≤ 1114111 ∧ CanFrom (r.2 + 2) l
/-- a valid set -/
def Cnn (l : List Rg) : Prop := CanFrom 0 l
theorem CanFrom.mono {lo lo' : Int} {l : List Rg} (h : CanFrom lo l) (hl : lo' ≤ lo) : CanFrom lo' l := by
  cases l with
  | nil => trivial
  | cons r l => exact ⟨by have := h.1; omega, h.2⟩
theorem CanFrom.ge {lo : Int} {l : List Rg} (h : CanFrom lo l) {c : Int} (hc : memR l c) : lo ≤ c ∧ c ≤ 1114111 := by
  induction l generalizing lo with
  | nil => obtain ⟨r, hr, _⟩ := hc; cases hr
  | cons r l ih =>
    obtain ⟨h1, h2, h3, h4⟩ := h
    obtain ⟨s, hs, h5, h6⟩ := hc
    rcases List.mem_cons.1 hs with rfl | hs
    · omega
    · have := ih h4 ⟨s, hs, h5, h6⟩
      omega
theorem can_has {l : List Rg} (h : Cnn l) (c : Int) : hasP l c ↔ memR l c :=
  ⟨fun h => h.2, fun hm => ⟨by have := CanFrom.ge h hm; exact this, hm⟩⟩
theorem memR_cons {r : Rg} {l : List Rg} {c : Int} : memR (r :: l) c ↔ (r.1 ≤ c ∧ c ≤ r.2) ∨ memR l c := by
  simp [memR]
theorem memR_nil {c : Int} : ¬ memR [] c := by simp [memR]
theorem memR_append {a b : List Rg} {c : Int} : memR (a ++ b) c ↔ memR a c ∨ memR b c := by
  simp only [memR, List.mem_append]
  constructor
  · rintro ⟨r, h | h, h2⟩
    · exact .inl ⟨r, h, h2⟩
    · exact .inr ⟨r, h, h2⟩
  · rintro (⟨r, h, h2⟩ | ⟨r, h, h2⟩)
    · exact ⟨r, .inl h, h2⟩
    · exact ⟨r, .inr h, h2⟩
theorem can_unique {lo : Int} {a b : List Rg} (ha : CanFrom lo a) (hb : CanFrom lo b) (h : ∀ c, memR a c ↔ memR b c) : a = b := by
  induction a generalizing lo b with
  | nil =>
    cases b with
    | nil => rfl
    | cons s b => exact absurd ((h s.1).2 (memR_cons.2 (.inl ⟨Int.le_refl _, hb.2.1⟩))) memR_nil
  | cons r a ih =>
    cases b with
    | nil => exact absurd ((h r.1).1 (memR_cons.2 (.inl ⟨Int.le_refl _, ha.2.1⟩))) memR_nil
    | cons s b =>
      obtain ⟨a1, a2, a3, a4⟩ := ha
      obtain ⟨b1, b2, b3, b4⟩ := hb
      have e1 : s.1 ≤ r.1 := by
        rcases memR_cons.1 ((h r.1).1 (memR_cons.2 (.inl ⟨Int.le_refl _, a2⟩))) with h1 | h1
        · exact h1.1
        · have := (CanFrom.ge b4 h1).1; omega
      have e2 : r.1 ≤ s.1 := by
        rcases memR_cons.1 ((h s.1).2 (memR_cons.2 (.inl ⟨Int.le_refl _, b2⟩))) with h1 | h1
        · exact h1.1
        · have := (CanFrom.ge a4 h1).1; omega
      have e3 : s.2 ≤ r.2 := by
        rcases Int.lt_or_le r.2 s.2 with h0 | h0
        · rcases memR_cons.1 ((h (r.2 + 1)).2 (memR_cons.2 (.inl ⟨by omega, by omega⟩))) with h1 | h1
          · omega
          · have := (CanFrom.ge a4 h1).1; omega
        · exact h0
      have e4 : r.2 ≤ s.2 := by
        rcases Int.lt_or_le s.2 r.2 with h0 | h0
        · rcases memR_cons.1 ((h (s.2 + 1)).1 (memR_cons.2 (.inl ⟨by omega, by omega⟩))) with h1 | h1
          · omega
          · have := (CanFrom.ge b4 h1).1; omega
        · exact h0
      have er : r = s := by
        obtain ⟨r1, r2⟩ := r
        obtain ⟨s1, s2⟩ := s
        simp only at e1 e2 e3 e4
        rw [show r1 = s1 by omega, show r2 = s2 by omega]
      subst er
      rw [ih a4 b4 (fun c => ?_)]
      constructor
      · intro hc
        have := (CanFrom.ge a4 hc).1
        rcases memR_cons.1 ((h c).1 (memR_cons.2 (.inr hc))) with h1 | h1
        · omega
        · exact h1
      · intro hc
        have := (CanFrom.ge b4 hc).1
        rcases memR_cons.1 ((h c).2 (memR_cons.2 (.inr hc))) with h1 | h1
        · omega
        · exact h1
theorem can_eq {a b : List Rg} (ha : Cnn a) (hb : Cnn b) (h : ∀ c, hasP a c ↔ hasP b c) : a = b :=
  can_unique ha hb fun c => (can_has ha c).symm.trans ((h c).trans (can_has hb c))
end Go.UtYtjohoohdjlajcaa
namespace Go.UtYtjohoohdjlajcaa
theorem CanFrom.snoc {lo : Int} {l : List Rg} {r : Rg} : CanFrom lo (l ++ [r]) ↔ CanFrom lo l ∧ (∀ s ∈ l, s.2 + 2 ≤ r.1) ∧ lo ≤ r.1 ∧ r.1 ≤ r.2 ∧ r.2 ≤ 1114111 := by
  induction l generalizing lo with
  | nil => simp [CanFrom]
  | cons s l ih =>
    rw [List.cons_append, CanFrom, CanFrom, ih]
    constructor
    · rintro ⟨h1, h2, h3, h4, h5, h6, h7, h8⟩
      refine ⟨⟨h1, h2, h3, h4⟩, fun t ht => ?_, by omega, h7, h8⟩
      rcases List.mem_cons.1 ht with rfl | ht
      · omega
      · exact h5 t ht
    · rintro ⟨⟨h1, h2, h3, h4⟩, h5, h6, h7, h8⟩
      exact ⟨h1, h2, h3, h4, fun t ht => h5 t (by simp [ht]), h5 s (by simp), h7, h8⟩
def clip (r : Rg) : Rg := (max r.1 0, min r.2 1114111)
def okR (r : Rg) : Bool := decide (r.1 ≤ r.2)
def parts (l : List Rg) : List Rg := (l.map clip).filter okR
theorem mem_parts (l : List Rg) (c : Int) : memR (parts l) c ↔ hasP l c := by
  constructor
  · rintro ⟨r, hr, h1, h2⟩
    obtain ⟨hr, _⟩ := List.mem_filter.1 hr
    obtain ⟨s, hs, rfl⟩ := List.mem_map.1 hr
    simp only [clip] at h1 h2
    exact ⟨⟨by omega, by omega⟩, s, hs, by omega, by omega⟩
  · rintro ⟨⟨h1, h2⟩, s, hs, h3, h4⟩
    refine ⟨clip s, List.mem_filter.2 ⟨List.mem_map.2 ⟨s, hs, rfl⟩, ?_⟩, ?_⟩
    · refine decide_eq_true ?_
      simp only [clip]
      omega
    · simp only [clip]
      omega
/-- a range within the code points -/
def inside (r : Rg) : Prop := 0 ≤ r.1 ∧ r.1 ≤ r.2 ∧ r.2 ≤ 1114111
theorem parts_in (l : List Rg) : ∀ r ∈ parts l, inside r := by
  intro r hr
  obtain ⟨hr, ho⟩ := List.mem_filter.1 hr
  obtain ⟨s, hs, rfl⟩ := List.mem_map.1 hr
  have ho := of_decide_eq_true ho
  simp only [clip] at ho
  exact ⟨by simp only [clip]; omega, by simp only [clip]; omega, by simp only [clip]; omega⟩
def mrg (out : List Rg) (r : Rg) : List Rg :=
  match out.getLast? with
  | none => [r]
  | some s => if r.1 ≤ s.2 + 1 then out.dropLast ++ [(s.1, max s.2 r.2)] else out ++ [r]
theorem mrg_nil (r : Rg) : mrg [] r = [r] := rfl
theorem mrg_in {o : List Rg} {s r : Rg} (h : r.1 ≤ s.2 + 1) : mrg (o ++ [s]) r = o ++ [(s.1, max s.2 r.2)] := by
  unfold mrg
  simp [h]
theorem mrg_out {o : List Rg} {s r : Rg} (h : ¬ r.1 ≤ s.2 + 1) : mrg (o ++ [s]) r = o ++ [s] ++ [r] := by
  unfold mrg
  simp [h]
theorem snoc_cases (l : List Rg) : l = [] ∨ ∃ o s, l = o ++ [s] := by
  rcases List.eq_nil_or_concat l with h | ⟨o, s, h⟩
  · exact .inl h
  · exact .inr ⟨o, s, by simpa using h⟩
/-- one step: out is a valid set whose last range begins no later than r -/
theorem mrg_step {out : List Rg} {r : Rg} (h : Cnn out) (hl : ∀ s ∈ out, s.1 ≤ r.1) (hr : inside r) : Cnn (mrg out r) ∧ (∀ c, memR (mrg out r) c ↔ memR out c ∨ (r.1 ≤ c ∧ c ≤ r.2)) ∧ ∀ s ∈ mrg out r, s.1 ≤ r.1 := by
  obtain ⟨r1, r2, r3⟩ := hr
  rcases snoc_cases out with rfl | ⟨o, s, rfl⟩
  · rw [mrg_nil]
    refine ⟨⟨r1, r2, r3, trivial⟩, fun c => ?_, fun s hs => ?_⟩
    · simp [memR]
    · simp at hs; subst hs; omega
  · obtain ⟨a1, a2, a3, a4, a5⟩ := CanFrom.snoc.1 h
    have hs1 : s.1 ≤ r.1 := hl s (by simp)
    by_cases hc : r.1 ≤ s.2 + 1
    · rw [mrg_in hc]
      refine ⟨CanFrom.snoc.2 ⟨a1, a2, a3, by simp only; omega, by simp only; omega⟩, fun c => ?_, fun t ht => ?_⟩
      · rw [memR_append, memR_append]
        simp only [memR, List.mem_singleton, exists_eq_left]
        constructor
        · rintro (h1 | ⟨h1, h2⟩)
          · exact .inl (.inl h1)
          · by_cases h3 : c ≤ s.2
            · exact .inl (.inr ⟨h1, h3⟩)
            · exact .inr ⟨by omega, by omega⟩
        · rintro ((h1 | ⟨h1, h2⟩) | ⟨h1, h2⟩)
          · exact .inl h1
          · exact .inr ⟨h1, by omega⟩
          · exact .inr ⟨by omega, by omega⟩
      · rcases List.mem_append.1 ht with h1 | h1
        · exact hl t (by simp [h1])
        · simp at h1; subst h1; exact hs1
    · rw [mrg_out hc]
      refine ⟨CanFrom.snoc.2 ⟨h, fun t ht => ?_, r1, r2, r3⟩, fun c => ?_, fun t ht => ?_⟩
      · rcases List.mem_append.1 ht with h1 | h1
        · have := a2 t h1; omega
        · simp at h1; subst h1; omega
      · rw [memR_append]
        simp [memR]
      · rcases List.mem_append.1 ht with h1 | h1
        · exact hl t h1
        · simp at h1; subst h1; omega
/-- sorted by the first numbers -/
def Srt (l : List Rg) : Prop := ∀ (i j : Nat) (x y : Rg), i < j → l[i]? = some x → l[j]? = some y → x.1 ≤ y.1
theorem mrg_all {ps : List Rg} (hst : Srt ps) (hi : ∀ r ∈ ps, inside r) : ∀ k, k ≤ ps.length → Cnn ((ps.take k).foldl mrg []) ∧ (∀ c, memR ((ps.take k).foldl mrg []) c ↔ memR (ps.take k) c) ∧ (∀ s ∈ (ps.take k).foldl mrg [], ∀ r, ps[k]? = some r → s.1 ≤ r.1) := by
  intro k
  induction k with
  | zero =>
    intro _
    refine ⟨trivial, fun c => by simp [memR], fun s hs => ?_⟩
    simp at hs
  | succ k ih =>
    intro hk
    obtain ⟨h1, h2, h3⟩ := ih (by omega)
    have hkl : k < ps.length := by omega
    have e : ps[k]? = some ps[k] := List.getElem?_eq_getElem hkl
    have et : ps.take (k + 1) = ps.take k ++ [ps[k]] := List.take_succ_eq_append_getElem hkl
    obtain ⟨g1, g2, g3⟩ := mrg_step h1 (fun s hs => h3 s hs _ e) (hi _ (List.getElem_mem hkl))
    rw [et, List.foldl_append]
    refine ⟨g1, fun c => ?_, fun s hs r hr => ?_⟩
    · rw [memR_append]
      refine (g2 c).trans ?_
      rw [h2 c]
      simp [memR]
    · have := g3 s hs
      have := hst k (k + 1) _ r (by omega) e hr
      omega
end Go.UtYtjohoohdjlajcaa
