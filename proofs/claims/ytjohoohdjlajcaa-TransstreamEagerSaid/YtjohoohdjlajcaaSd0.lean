/-
  Streams of transliteration: the steps that are possible, over the whole input so far; plain lists.
-/
import Derived.Test.YtjohoohdjlajcaaTd2
namespace Go.UtYtjohoohdjlajcaa
/-- the steps from p on at positions that at least h elements follow: what they write, and where they end -/
noncomputable def stS (D : List TR) (inp : List Int) (h p : Nat) : List Int × Nat :=
  if p + max 1 h ≤ inp.length then (writS D inp p (stepF D inp p).1 ++ (stS D inp h (p + max 1 (stepF D inp p).2.toNat)).1, (stS D inp h (p + max 1 (stepF D inp p).2.toNat)).2) else ([], p)
termination_by inp.length - p
decreasing_by all_goals omega
section
variable {D : List TR} {inp : List Int} {h p : Nat}
theorem stS_stop (hh : ¬ p + h ≤ inp.length) : stS D inp h p = ([], p) := by
  rw [stS, if_neg (by omega)]
theorem stS_step (hm : matOk D) (h1 : 1 ≤ h) (hh : p + h ≤ inp.length) {i n : Int} (hs : IsStep D inp p i n) : stS D inp h p = (writS D inp p i ++ (stS D inp h (p + n.toNat)).1, (stS D inp h (p + n.toNat)).2) := by
  have hn := step_pos hm hs
  rw [stS, if_pos (by omega), stepF_eq hs]
  simp only
  rw [show max 1 n.toNat = n.toNat by omega]
/-- induction along the steps -/
theorem st_induct (hm : matOk D) (h1 : 1 ≤ h) {P : Nat → Prop} (hstop : ∀ p, p ≤ inp.length → ¬ p + h ≤ inp.length → P p) (hstep : ∀ p i n, p + h ≤ inp.length → IsStep D inp p i n → p + n.toNat ≤ inp.length → P (p + n.toNat) → P p) : ∀ p, p ≤ inp.length → P p := by
  have : ∀ k p, inp.length - p ≤ k → p ≤ inp.length → P p := by
    intro k
    induction k with
    | zero =>
      intro p hk hp
      exact hstop p hp (by omega)
    | succ k ih =>
      intro p hk hp
      by_cases hh : p + h ≤ inp.length
      · obtain ⟨i, n, hs⟩ := step_ex D inp p
        have hn := step_pos hm hs
        have hi := step_in (by omega) hs
        exact hstep p i n hh hs (by omega) (ih _ (by omega) (by omega))
      · exact hstop p hp hh
  exact fun p hp => this _ p (Nat.le_refl _) hp
theorem stS_le (hm : matOk D) (h1 : 1 ≤ h) : ∀ p, p ≤ inp.length → p ≤ (stS D inp h p).2 ∧ (stS D inp h p).2 ≤ inp.length ∧ ¬ (stS D inp h p).2 + h ≤ inp.length := by
  refine st_induct (P := fun p => p ≤ (stS D inp h p).2 ∧ (stS D inp h p).2 ≤ inp.length ∧ ¬ (stS D inp h p).2 + h ≤ inp.length) hm h1 ?_ ?_
  · intro p hp hh
    rw [stS_stop hh]
    exact ⟨Nat.le_refl _, hp, hh⟩
  · intro p i n hh hs hle ih
    rw [stS_step hm h1 hh hs]
    exact ⟨by have := ih.1; omega, ih.2.1, ih.2.2⟩
/-- with one element ahead, the steps go to the end -/
theorem stS_one (hm : matOk D) : ∀ p, p ≤ inp.length → (stS D inp 1 p).1 = outR D inp p ∧ (stS D inp 1 p).2 = inp.length := by
  refine st_induct (P := fun p => (stS D inp 1 p).1 = outR D inp p ∧ (stS D inp 1 p).2 = inp.length) hm (Nat.le_refl _) ?_ ?_
  · intro p hp hh
    rw [stS_stop hh, outR_end (by omega)]
    exact ⟨rfl, by simp; omega⟩
  · intro p i n hh hs hle ih
    rw [stS_step hm (Nat.le_refl _) hh hs, outR_step hm (by omega) hs, ih.1]
    exact ⟨rfl, ih.2⟩
/-- what follows does not matter where enough elements are known -/
theorem hits_more {sets : List (List Rg)} {x y : List Int} {p : Nat} (h : p + sets.length ≤ x.length) : hits sets (x ++ y) p ↔ hits sets x p := by
  constructor
  · rintro ⟨_, h2⟩
    refine ⟨h, fun i s c hs hc => h2 i s c hs ?_⟩
    rw [List.getElem?_append_left (List.getElem?_eq_some_iff.1 hc).1]
    exact hc
  · rintro ⟨_, h2⟩
    refine ⟨by simp; omega, fun i s c hs hc => h2 i s c hs ?_⟩
    have hi := (List.getElem?_eq_some_iff.1 hs).1
    rw [List.getElem?_append_left (by omega)] at hc
    exact hc
theorem prec_more {r : TR} {x y : List Int} {p : Nat} (h : p ≤ x.length) : prec r (x ++ y) p ↔ prec r x p := by
  unfold prec
  constructor
  · rintro ⟨h1, h2⟩
    exact ⟨h1, (hits_more (by omega)).1 h2⟩
  · rintro ⟨h1, h2⟩
    exact ⟨h1, (hits_more (by omega)).2 h2⟩
theorem appl_more {r : TR} {x y : List Int} {p : Nat} (h : p + r.ma.length ≤ x.length) : appl r (x ++ y) p ↔ appl r x p := by
  unfold appl
  rw [hits_more h, prec_more (by omega)]
theorem step_more {x y : List Int} {p ah : Nat} (ha : ahR D ≤ ah) (h : p + ah ≤ x.length) {i n : Int} (hs : IsStep D x p i n) : IsStep D (x ++ y) p i n := by
  have hw : ∀ r ∈ D, (appl r (x ++ y) p ↔ appl r x p) := fun r hr => appl_more (by have := ah_le hr; omega)
  rcases hs with ⟨h1, h2, h3⟩ | ⟨k, r, h1, h2, h3, h4, h5⟩
  · exact .inl ⟨h1, h2, fun k r hk h => h3 k r hk ((hw r (List.mem_of_getElem? hk)).1 h)⟩
  · exact .inr ⟨k, r, h1, h2, h3, (hw r (List.mem_of_getElem? h2)).2 h4, fun k' r' hl hk h => h5 k' r' hl hk ((hw r' (List.mem_of_getElem? hk)).1 h)⟩
def resFit (D : List TR) : Prop := ∀ r ∈ D, resOk r
theorem writ_more (hr : resFit D) {x y : List Int} {p : Nat} {i n : Int} (hp : p < x.length) (hs : IsStep D x p i n) : writS D (x ++ y) p i = writS D x p i := by
  rcases hs with ⟨rfl, rfl, _⟩ | ⟨k, r, rfl, hk, rfl, ha, _⟩
  · unfold writS
    rw [if_pos (by omega), if_pos (by omega)]
    simp only [List.getD_eq_getElem?_getD]
    rw [List.getElem?_append_left hp]
  · unfold writS
    rw [if_neg (by omega), if_neg (by omega), Int.toNat_natCast, hk]
    simp only [Option.map_some, Option.getD_some]
    apply List.map_congr_left
    intro q hq
    by_cases h0 : q.2 = 0
    · rw [if_pos h0, if_pos h0]
    · rw [if_neg h0, if_neg h0]
      have hq2 : 1 ≤ q.2 ∧ q.2 ≤ (r.mat.length : Int) := by
        rcases hr r (List.mem_of_getElem? hk) q hq with h | h
        · exact absurd h.1 h0
        · exact h.2
      have hl := ((hits_append.1 ha.1).1).1
      simp only [List.getD_eq_getElem?_getD]
      rw [List.getElem?_append_left (by omega)]
/-- the steps over a longer input go on from where those over a shorter one end -/
theorem stS_more (hm : matOk D) (hr : resFit D) (h1 : 1 ≤ h) (ha : ahR D ≤ h) (y : List Int) : ∀ p, p ≤ inp.length → stS D (inp ++ y) h p = ((stS D inp h p).1 ++ (stS D (inp ++ y) h (stS D inp h p).2).1, (stS D (inp ++ y) h (stS D inp h p).2).2) := by
  refine st_induct (P := fun p => stS D (inp ++ y) h p = ((stS D inp h p).1 ++ (stS D (inp ++ y) h (stS D inp h p).2).1, (stS D (inp ++ y) h (stS D inp h p).2).2)) hm h1 ?_ ?_
  · intro p hp hh
    rw [stS_stop hh]
    simp
  · intro p i n hh hs hle ih
    rw [stS_step hm h1 hh hs, stS_step (inp := inp ++ y) hm h1 (by simp; omega) (step_more ha hh hs), writ_more hr (by omega) hs]
    rw [ih]
    simp
/-- .. and what they write is what is written for the whole -/
theorem stS_out (hm : matOk D) (hr : resFit D) (h1 : 1 ≤ h) (ha : ahR D ≤ h) (y : List Int) : ∀ p, p ≤ inp.length → outR D (inp ++ y) p = (stS D inp h p).1 ++ outR D (inp ++ y) (stS D inp h p).2 := by
  refine st_induct (P := fun p => outR D (inp ++ y) p = (stS D inp h p).1 ++ outR D (inp ++ y) (stS D inp h p).2) hm h1 ?_ ?_
  · intro p hp hh
    rw [stS_stop hh]
    simp
  · intro p i n hh hs hle ih
    rw [stS_step hm h1 hh hs, outR_step (text := inp ++ y) hm (by simp; omega) (step_more ha hh hs), writ_more hr (by omega) hs, ih]
    simp
/-- elements far in front do not matter -/
theorem hits_drop {sets : List (List Rg)} {text : List Int} {p b : Nat} (h : b ≤ p) (hb : b ≤ text.length) : hits sets (text.drop b) (p - b) ↔ hits sets text p := by
  constructor
  · rintro ⟨h1, h2⟩
    rw [List.length_drop] at h1
    refine ⟨by omega, fun i s c hs hc => h2 i s c hs ?_⟩
    · rw [List.getElem?_drop, show b + (p - b + i) = p + i by omega]
      exact hc
  · rintro ⟨h1, h2⟩
    refine ⟨by rw [List.length_drop]; omega, fun i s c hs hc => h2 i s c hs ?_⟩
    rw [List.getElem?_drop, show b + (p - b + i) = p + i by omega] at hc
    exact hc
theorem appl_drop {r : TR} {text : List Int} {p b bf : Nat} (h : b = 0 ∨ b + bf ≤ p) (hl : b ≤ text.length) (hb : r.bef.length ≤ bf) : appl r (text.drop b) (p - b) ↔ appl r text p := by
  have hbp : b ≤ p := by omega
  unfold appl
  rw [hits_drop hbp hl]
  have : prec r (text.drop b) (p - b) ↔ prec r text p := by
    unfold prec
    constructor
    · rintro ⟨h1, h2⟩
      refine ⟨by omega, ?_⟩
      rw [show p - b - r.bef.length = p - r.bef.length - b by omega] at h2
      exact (hits_drop (by omega) hl).1 h2
    · rintro ⟨h1, h2⟩
      refine ⟨by omega, ?_⟩
      rw [show p - b - r.bef.length = p - r.bef.length - b by omega]
      exact (hits_drop (by omega) hl).2 h2
  rw [this]
theorem step_drop {text : List Int} {p b bf : Nat} (h : b = 0 ∨ b + bf ≤ p) (hl : b ≤ text.length) (hb : bfR D ≤ bf) {i n : Int} : IsStep D (text.drop b) (p - b) i n ↔ IsStep D text p i n := by
  have hw : ∀ r ∈ D, (appl r (text.drop b) (p - b) ↔ appl r text p) := fun r hr => appl_drop h hl (Nat.le_trans (bf_le hr) hb)
  constructor
  · rintro (⟨h1, h2, h3⟩ | ⟨k, r, h1, h2, h3, h4, h5⟩)
    · exact .inl ⟨h1, h2, fun k r hk h => h3 k r hk ((hw r (List.mem_of_getElem? hk)).2 h)⟩
    · exact .inr ⟨k, r, h1, h2, h3, (hw r (List.mem_of_getElem? h2)).1 h4, fun k' r' hl hk h => h5 k' r' hl hk ((hw r' (List.mem_of_getElem? hk)).2 h)⟩
  · rintro (⟨h1, h2, h3⟩ | ⟨k, r, h1, h2, h3, h4, h5⟩)
    · exact .inl ⟨h1, h2, fun k r hk h => h3 k r hk ((hw r (List.mem_of_getElem? hk)).1 h)⟩
    · exact .inr ⟨k, r, h1, h2, h3, (hw r (List.mem_of_getElem? h2)).2 h4, fun k' r' hl hk h => h5 k' r' hl hk ((hw r' (List.mem_of_getElem? hk)).1 h)⟩
theorem writ_drop (hr : resFit D) {p b : Nat} {i n : Int} (hb : b ≤ p) (hs : IsStep D inp p i n) : writS D (inp.drop b) (p - b) i = writS D inp p i := by
  rcases hs with ⟨rfl, rfl, _⟩ | ⟨k, r, rfl, hk, rfl, ha, _⟩
  · unfold writS
    rw [if_pos (by omega), if_pos (by omega)]
    simp only [List.getD_eq_getElem?_getD]
    rw [List.getElem?_drop, show b + (p - b) = p by omega]
  · unfold writS
    rw [if_neg (by omega), if_neg (by omega), Int.toNat_natCast, hk]
    simp only [Option.map_some, Option.getD_some]
    apply List.map_congr_left
    intro q hq
    by_cases h0 : q.2 = 0
    · rw [if_pos h0, if_pos h0]
    · rw [if_neg h0, if_neg h0]
      have hq2 : 1 ≤ q.2 ∧ q.2 ≤ (r.mat.length : Int) := by
        rcases hr r (List.mem_of_getElem? hk) q hq with h | h
        · exact absurd h.1 h0
        · exact h.2
      simp only [List.getD_eq_getElem?_getD]
      rw [List.getElem?_drop, show b + (p - b + q.2.toNat - 1) = p + q.2.toNat - 1 by omega]
theorem stS_drop (hm : matOk D) (hr : resFit D) (h1 : 1 ≤ h) {b bf : Nat} (hl : b ≤ inp.length) (hb : bfR D ≤ bf) : ∀ p, p ≤ inp.length → (b = 0 ∨ b + bf ≤ p) → stS D (inp.drop b) h (p - b) = ((stS D inp h p).1, (stS D inp h p).2 - b) := by
  refine st_induct (P := fun p => (b = 0 ∨ b + bf ≤ p) → stS D (inp.drop b) h (p - b) = ((stS D inp h p).1, (stS D inp h p).2 - b)) hm h1 ?_ ?_
  · intro p hp hh hc
    rw [stS_stop hh, stS_stop (by rw [List.length_drop]; omega)]
  · intro p i n hh hs hle ih hc
    have hn := step_pos hm hs
    rw [stS_step hm h1 hh hs, stS_step (inp := inp.drop b) hm h1 (by rw [List.length_drop]; omega) ((step_drop hc hl hb).2 hs), writ_drop hr (by omega) hs]
    have := ih (by omega)
    rw [show p - b + n.toNat = p + n.toNat - b by omega, this]
end
theorem data_fit (l : List TR) : resFit (dataL l) := fun r hr => (chk1_ok (data_ok r hr)).2.2
end Go.UtYtjohoohdjlajcaa
