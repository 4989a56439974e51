/-
  Transliteration rules: which rule applies where, and how a trie finds it; plain lists.
-/
import Derived.Test.YtjohoohdjlajcaaCs0
namespace Go.UtYtjohoohdjlajcaa
/-- a rule: sets before, sets that match, sets after; the pieces (Code, Copy) of its result -/
structure TR where
  bef : List (List Rg)
  mat : List (List Rg)
  aft : List (List Rg)
  res : List (Int × Int)
/-- the elements from a position on are in sets, one after the other -/
def hits (sets : List (List Rg)) (text : List Int) (p : Nat) : Prop := p + sets.length ≤ text.length ∧ ∀ (i : Nat) (s : List Rg) (c : Int), sets[i]? = some s → text[p + i]? = some c → hasP s c
noncomputable instance (sets : List (List Rg)) (text : List Int) (p : Nat) : Decidable (hits sets text p) := Classical.propDecidable _
theorem hits_nil {text : List Int} {p : Nat} (h : p ≤ text.length) : hits [] text p := ⟨by simpa using h, fun i s c hs => by simp at hs⟩
theorem hits_append {a b : List (List Rg)} {text : List Int} {p : Nat} : hits (a ++ b) text p ↔ hits a text p ∧ hits b text (p + a.length) := by
  constructor
  · rintro ⟨h1, h2⟩
    rw [List.length_append] at h1
    refine ⟨⟨by omega, fun i s c hs hc => h2 i s c (by rw [List.getElem?_append_left (List.getElem?_eq_some_iff.1 hs).1]; exact hs) hc⟩, ⟨by omega, fun i s c hs hc => h2 (a.length + i) s c ?_ ?_⟩⟩
    · rw [List.getElem?_append_right (by omega), Nat.add_sub_cancel_left]; exact hs
    · rw [← Nat.add_assoc]; exact hc
  · rintro ⟨⟨h1, h2⟩, h3, h4⟩
    refine ⟨by rw [List.length_append]; omega, fun i s c hs hc => ?_⟩
    by_cases hi : i < a.length
    · rw [List.getElem?_append_left hi] at hs
      exact h2 i s c hs hc
    · rw [List.getElem?_append_right (by omega)] at hs
      refine h4 (i - a.length) s c hs ?_
      rw [show p + a.length + (i - a.length) = p + i by omega]
      exact hc
/-- Match and After, one after the other -/
def TR.ma (r : TR) : List (List Rg) := r.mat ++ r.aft
/-- the sets of Before stand ahead of a position -/
def prec (r : TR) (text : List Int) (p : Nat) : Prop := r.bef.length ≤ p ∧ hits r.bef text (p - r.bef.length)
/-- a rule applies at a position -/
def appl (r : TR) (text : List Int) (p : Nat) : Prop := hits r.ma text p ∧ prec r text p
theorem appl_iff {r : TR} {text : List Int} {p : Nat} : appl r text p ↔ hits r.mat text p ∧ hits r.aft text (p + r.mat.length) ∧ prec r text p := by
  unfold appl TR.ma
  rw [hits_append, and_assoc]
/-- what a step at a position finds: the first rule that applies, and how much it covers -/
def IsStep (rules : List TR) (text : List Int) (p : Nat) (i n : Int) : Prop :=
  (i = -1 ∧ n = 1 ∧ ∀ (k : Nat) (r : TR), rules[k]? = some r → ¬ appl r text p) ∨
  ∃ (k : Nat) (r : TR), i = (k : Int) ∧ rules[k]? = some r ∧ n = (r.mat.length : Int) ∧ appl r text p ∧ ∀ (k' : Nat) (r' : TR), k' < k → rules[k']? = some r' → ¬ appl r' text p
theorem step_unique {rules : List TR} {text : List Int} {p : Nat} {i n i' n' : Int} (h : IsStep rules text p i n) (h' : IsStep rules text p i' n') : i = i' ∧ n = n' := by
  rcases h with ⟨rfl, rfl, h1⟩ | ⟨k, r, rfl, hk, rfl, ha, hf⟩ <;> rcases h' with ⟨rfl, rfl, h1'⟩ | ⟨k', r', rfl, hk', rfl, ha', hf'⟩
  · exact ⟨rfl, rfl⟩
  · exact absurd ha' (h1 k' r' hk')
  · exact absurd ha (h1' k r hk)
  · rcases Nat.lt_trichotomy k k' with h | h | h
    · exact absurd ha (hf' k r h hk)
    · subst h
      rw [hk] at hk'
      cases hk'
      exact ⟨rfl, rfl⟩
    · exact absurd ha' (hf k' r' h hk')
theorem step_ex (rules : List TR) (text : List Int) (p : Nat) : ∃ i n, IsStep rules text p i n := by
  by_cases h : ∃ (k : Nat) (r : TR), rules[k]? = some r ∧ appl r text p
  · have : ∃ k : Nat, (∃ r, rules[k]? = some r ∧ appl r text p) ∧ ∀ k' < k, ¬ ∃ r, rules[k']? = some r ∧ appl r text p := by
      obtain ⟨k, hk⟩ := h
      induction k using Nat.strongRecOn with
      | _ k ih =>
        by_cases hc : ∃ k' < k, ∃ r, rules[k']? = some r ∧ appl r text p
        · obtain ⟨k', h1, h2⟩ := hc
          exact ih k' h1 h2
        · exact ⟨k, hk, fun k' h1 h2 => hc ⟨k', h1, h2⟩⟩
    obtain ⟨k, ⟨r, h1, h2⟩, h3⟩ := this
    exact ⟨k, r.mat.length, .inr ⟨k, r, rfl, h1, rfl, h2, fun k' r' hk hr ha => h3 k' hk ⟨r', hr, ha⟩⟩⟩
  · exact ⟨-1, 1, .inl ⟨rfl, rfl, fun k r hk ha => h ⟨k, r, hk, ha⟩⟩⟩
/-- what was read fits the first sets of a rule -/
def fitR (q : List Int) (r : TR) : Prop := q.length ≤ r.ma.length ∧ ∀ (i : Nat) (s : List Rg) (c : Int), r.ma[i]? = some s → q[i]? = some c → hasP s c
noncomputable def fitB (rules : List TR) (q : List Int) (i : Nat) : Bool := match rules[i]? with
  | some r => @decide (fitR q r) (Classical.propDecidable _)
  | none => false
/-- the rules that are possible after what was read -/
noncomputable def alv (rules : List TR) (q : List Int) : List Nat := (List.range rules.length).filter (fitB rules q)
theorem fitB_iff {rules : List TR} {q : List Int} {i : Nat} : fitB rules q i = true ↔ ∃ r, rules[i]? = some r ∧ fitR q r := by
  unfold fitB
  cases rules[i]? with
  | none => simp
  | some r => simp
theorem alv_mem {rules : List TR} {q : List Int} {i : Nat} : i ∈ alv rules q ↔ ∃ r, rules[i]? = some r ∧ fitR q r := by
  unfold alv
  rw [List.mem_filter, fitB_iff]
  constructor
  · exact fun h => h.2
  · rintro ⟨r, h1, h2⟩
    exact ⟨List.mem_range.2 (List.getElem?_eq_some_iff.1 h1).1, r, h1, h2⟩
theorem alv_nil (rules : List TR) : alv rules [] = List.range rules.length := by
  unfold alv
  rw [List.filter_eq_self]
  intro i hi
  rw [fitB_iff]
  have := List.mem_range.1 hi
  exact ⟨rules[i], List.getElem?_eq_getElem this, by simp, fun i s c _ h => by simp at h⟩
theorem fit_snoc {q : List Int} {c : Int} {r : TR} : fitR (q ++ [c]) r ↔ fitR q r ∧ ∃ s, r.ma[q.length]? = some s ∧ hasP s c := by
  constructor
  · rintro ⟨h1, h2⟩
    rw [List.length_append] at h1
    simp at h1
    refine ⟨⟨by omega, fun i s d hs hd => h2 i s d hs ?_⟩, ?_⟩
    · rw [List.getElem?_append_left (List.getElem?_eq_some_iff.1 hd).1]; exact hd
    · have hl : q.length < r.ma.length := by omega
      exact ⟨r.ma[q.length], List.getElem?_eq_getElem hl, h2 q.length _ c (List.getElem?_eq_getElem hl) (by simp)⟩
  · rintro ⟨⟨h1, h2⟩, s, h3, h4⟩
    have hl := (List.getElem?_eq_some_iff.1 h3).1
    refine ⟨by simp; omega, fun i t d ht hd => ?_⟩
    rcases Nat.lt_trichotomy i q.length with h | h | h
    · rw [List.getElem?_append_left h] at hd
      exact h2 i t d ht hd
    · subst h
      simp at hd
      subst hd
      rw [h3] at ht
      cases ht
      exact h4
    · rw [List.getElem?_eq_none (by simp; omega)] at hd
      cases hd
/-- the set of Match and After with an index -/
def setN (rules : List TR) (i d : Nat) : Option (List Rg) := (rules[i]?).bind fun r => r.ma[d]?
noncomputable def goesB (rules : List TR) (d : Nat) (c : Int) (i : Nat) : Bool := match setN rules i d with
  | some s => decide (hasP s c)
  | none => false
theorem alv_snoc (rules : List TR) (q : List Int) (c : Int) : alv rules (q ++ [c]) = (alv rules q).filter (goesB rules q.length c) := by
  unfold alv
  rw [List.filter_filter]
  apply List.filter_congr
  intro i _
  rw [Bool.eq_iff_iff, Bool.and_eq_true, fitB_iff, fitB_iff]
  unfold goesB setN
  constructor
  · rintro ⟨r, h1, h2⟩
    obtain ⟨h3, s, h4, h5⟩ := fit_snoc.1 h2
    refine ⟨?_, r, h1, h3⟩
    simp [h1, h4, h5]
  · rintro ⟨h1, r, h2, h3⟩
    refine ⟨r, h2, fit_snoc.2 ⟨h3, ?_⟩⟩
    rw [h2] at h1
    simp only [Option.bind_some] at h1
    cases hs : r.ma[q.length]? with
    | none => rw [hs] at h1; cases h1
    | some s => rw [hs] at h1; exact ⟨s, rfl, of_decide_eq_true h1⟩
/-- what stands in the text from p on, d elements -/
def seg (text : List Int) (p d : Nat) : List Int := (text.drop p).take d
theorem seg_len {text : List Int} {p d : Nat} (h : p + d ≤ text.length) : (seg text p d).length = d := by
  unfold seg
  rw [List.length_take, List.length_drop]
  omega
theorem seg_get {text : List Int} {p d i : Nat} (hi : i < d) : (seg text p d)[i]? = text[p + i]? := by
  unfold seg
  rw [List.getElem?_take, if_pos hi, List.getElem?_drop]
theorem seg_snoc {text : List Int} {p d : Nat} {c : Int} (h : text[p + d]? = some c) : seg text p (d + 1) = seg text p d ++ [c] := by
  unfold seg
  have hl := (List.getElem?_eq_some_iff.1 h)
  have hd : d < (text.drop p).length := by rw [List.length_drop]; have := hl.1; omega
  rw [List.take_succ_eq_append_getElem hd]
  congr 2
  rw [List.getElem_drop]
  exact hl.2
/-- a rule whose sets are all read fits just where it hits -/
theorem fit_hits {text : List Int} {p : Nat} {r : TR} (h : p + r.ma.length ≤ text.length) : fitR (seg text p r.ma.length) r ↔ hits r.ma text p := by
  constructor
  · rintro ⟨_, h2⟩
    exact ⟨h, fun i s c hs hc => h2 i s c hs (by rw [seg_get (List.getElem?_eq_some_iff.1 hs).1]; exact hc)⟩
  · rintro ⟨_, h2⟩
    exact ⟨by rw [seg_len h]; exact Nat.le_refl _, fun i s c hs hc => h2 i s c hs (by rw [seg_get (List.getElem?_eq_some_iff.1 hs).1] at hc; exact hc)⟩
theorem hits_fit {text : List Int} {p d : Nat} {r : TR} (h : hits r.ma text p) (hd : d ≤ r.ma.length) : fitR (seg text p d) r := by
  have h1 := h.1
  refine ⟨by rw [seg_len (by omega)]; exact hd, fun i s c hs hc => h.2 i s c hs ?_⟩
  have hi : i < d := by
    have := (List.getElem?_eq_some_iff.1 hc).1
    rw [seg_len (by omega)] at this
    exact this
  rwa [seg_get hi] at hc
/-- the best rule among those with fewer than d sets; -1 if there is none -/
def Best (rules : List TR) (text : List Int) (p : Nat) (P : Nat → TR → Prop) (b : Int) : Prop :=
  (b = -1 ∧ ∀ (k : Nat) (r : TR), rules[k]? = some r → P k r → ¬ appl r text p) ∨
  ∃ (k : Nat) (r : TR), b = (k : Int) ∧ rules[k]? = some r ∧ appl r text p ∧ ∀ (k' : Nat) (r' : TR), k' < k → rules[k']? = some r' → P k' r' → ¬ appl r' text p
theorem best_start (rules : List TR) (text : List Int) (p : Nat) : Best rules text p (fun _ r => r.ma.length < 0) (-1) := .inl ⟨rfl, fun k r _ h => by omega⟩
theorem Best.mono {rules : List TR} {text : List Int} {p : Nat} {P Q : Nat → TR → Prop} {b : Int} (h : Best rules text p P b) (hq : ∀ (k : Nat) (r : TR), rules[k]? = some r → Q k r → appl r text p → (b = -1 ∨ (k : Int) < b) → P k r) : Best rules text p Q b := by
  rcases h with ⟨h1, h2⟩ | ⟨k, r, h1, h2, h3, h4⟩
  · exact .inl ⟨h1, fun k r hk hQ ha => h2 k r hk (hq k r hk hQ ha (.inl h1)) ha⟩
  · exact .inr ⟨k, r, h1, h2, h3, fun k' r' hlt hk' hQ ha => h4 k' r' hlt hk' (hq k' r' hk' hQ ha (.inr (by omega))) ha⟩
theorem best_step {rules : List TR} {text : List Int} {p : Nat} {b : Int} (h : Best rules text p (fun _ _ => True) b) : ∃ n, IsStep rules text p b n ∧ ((b = -1 ∧ n = 1) ∨ ∃ (k : Nat) (r : TR), b = (k : Int) ∧ rules[k]? = some r ∧ n = (r.mat.length : Int)) := by
  rcases h with ⟨h1, h2⟩ | ⟨k, r, h1, h2, h3, h4⟩
  · exact ⟨1, .inl ⟨h1, rfl, fun k r hk => h2 k r hk trivial⟩, .inl ⟨h1, rfl⟩⟩
  · exact ⟨r.mat.length, .inr ⟨k, r, h1, h2, rfl, h3, fun k' r' hl hk' => h4 k' r' hl hk' trivial⟩, .inr ⟨k, r, h1, h2, rfl⟩⟩
end Go.UtYtjohoohdjlajcaa
