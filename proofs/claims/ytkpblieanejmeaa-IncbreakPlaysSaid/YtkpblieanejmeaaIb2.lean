/-
  Plain: what a binary search in the boundaries finds; the boundaries before and behind a position.
-/
import Derived.Test.YtkpblieanejmeaaBs3
namespace Go.UtYtkpblieanejmeaa
/-- i: how many numbers of a list lie below a -/
def Cut (b : List Int) (a : Int) (i : Nat) : Prop := i ≤ b.length ∧ (∀ (k : Nat) (z : Int), k < i → b[k]? = some z → z < a) ∧ ∀ (k : Nat) (z : Int), i ≤ k → b[k]? = some z → a ≤ z
theorem pw_lt {b : List Int} (hs : List.Pairwise (· < ·) b) {j k : Nat} {x y : Int} (hj : b[j]? = some x) (hk : b[k]? = some y) (h : j < k) : x < y := by
  obtain ⟨h1, e1⟩ := List.getElem?_eq_some_iff.1 hj
  obtain ⟨h2, e2⟩ := List.getElem?_eq_some_iff.1 hk
  have := List.pairwise_iff_getElem.1 hs j k h1 h2 h
  rw [e1, e2] at this
  exact this
theorem Cut.next_no {b : List Int} {a : Int} {i : Nat} (h : Cut b a i) (hf : b[i]? ≠ some a) : nextL b a = (b[i]?).getD (-1) := by
  cases hb : b[i]? with
  | none =>
    refine next_miss (fun z hz => ?_)
    obtain ⟨k, hk, e⟩ := List.getElem_of_mem hz
    have hn : b.length ≤ i := List.getElem?_eq_none_iff.1 hb
    have := h.2.1 k z (by omega) (e ▸ List.getElem?_eq_getElem hk)
    omega
  | some q =>
    have h1 := h.2.2 i q (Nat.le_refl _) hb
    have h2 : q ≠ a := fun e => hf (e ▸ hb)
    have hlt : a < q := by omega
    rw [Option.getD_some]
    refine next_hit (k := i) (fun z hz => ?_) hb hlt
    obtain ⟨k, hk, e⟩ := List.getElem_of_mem hz
    rw [List.getElem_take] at e
    have hk' : k < min i b.length := by simpa using hk
    have := h.2.1 k z (by omega) (e ▸ List.getElem?_eq_getElem (by omega))
    omega
theorem Cut.next_yes {b : List Int} {a : Int} {i : Nat} (h : Cut b a i) (hs : List.Pairwise (· < ·) b) (hf : b[i]? = some a) : nextL b a = (b[i + 1]?).getD (-1) := by
  have hle : ∀ (k : Nat) (z : Int), k ≤ i → b[k]? = some z → z ≤ a := fun k z hk hz => by
    rcases Nat.lt_or_ge k i with h1 | h1
    · have := h.2.1 k z h1 hz
      omega
    · have : k = i := by omega
      subst this
      rw [hf] at hz
      injection hz with hz
      omega
  cases hb : b[i + 1]? with
  | none =>
    refine next_miss (fun z hz => ?_)
    obtain ⟨k, hk, e⟩ := List.getElem_of_mem hz
    have hn : b.length ≤ i + 1 := List.getElem?_eq_none_iff.1 hb
    have := hle k z (by omega) (e ▸ List.getElem?_eq_getElem hk)
    omega
  | some q =>
    have h1 := pw_lt hs hf hb (Nat.lt_succ_self _)
    refine next_hit (k := i + 1) (fun z hz => ?_) hb h1
    obtain ⟨k, hk, e⟩ := List.getElem_of_mem hz
    rw [List.getElem_take] at e
    have hk' : k < min (i + 1) b.length := by simpa using hk
    have := hle k z (by omega) (e ▸ List.getElem?_eq_getElem (by omega))
    omega
theorem Cut.prev {b : List Int} {a : Int} {i : Nat} (h : Cut b a i) : prevL b a = if i = 0 then -1 else (b[i - 1]?).getD (-1) := by
  have hf : b.filter (fun q => decide (q < a)) = b.take i := by
    conv => lhs; rw [← List.take_append_drop i b]
    rw [List.filter_append, List.filter_eq_self.2, List.filter_eq_nil_iff.2, List.append_nil]
    · intro z hz
      obtain ⟨k, hk, e⟩ := List.getElem_of_mem hz
      rw [List.getElem_drop] at e
      simp at hk
      have := h.2.2 (i + k) z (by omega) (e ▸ List.getElem?_eq_getElem (by omega))
      simp
      omega
    · intro z hz
      obtain ⟨k, hk, e⟩ := List.getElem_of_mem hz
      rw [List.getElem_take] at e
      have hk' : k < min i b.length := by simpa using hk
      have := h.2.1 k z (by omega) (e ▸ List.getElem?_eq_getElem (by omega))
      simpa using this
  unfold prevL
  rw [hf, List.getLast?_eq_getElem?]
  by_cases h0 : i = 0
  · subst h0
    simp
  · rw [if_neg h0, List.length_take, Nat.min_eq_left h.1, List.getElem?_take, if_pos (by omega)]
end Go.UtYtkpblieanejmeaa
namespace Go.Proofs.Ytkpblieanejmeaa
open Go.RowKit Go.UtYtkpblieanejmeaa
/-- boundaries are positions -/
theorem bnd_le (p : PR) (t : BT) (X : List Int) : ∀ q ∈ bndL p t X, 0 ≤ q ∧ q ≤ (X.length : Int) := fun q hq => by
  refine ⟨bnd_pos p t X q hq, ?_⟩
  rw [bnd_eq] at hq
  obtain ⟨i, rfl, h1, -⟩ := ends_mem.1 hq
  have h2 : (acV p t X).length ≤ X.length + 1 := by
    unfold acV
    by_cases h : validT t
    · rw [if_pos h, acts_len]
      unfold clsL
      simp
    · rw [if_neg h]
      simp
  omega
end Go.Proofs.Ytkpblieanejmeaa
