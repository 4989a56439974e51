/-
  Pools of sequences: plain lists.
-/
namespace Go.UtYteobffcnfigilaa
/-- codes and sequence agree from a position on, as far as both go -/
def agr (cs seq : List Int) (k : Nat) : Bool := decide ((cs.drop k).take seq.length = seq.take (cs.length - k))
def fstGo (cs seq : List Int) : Nat → Nat → Nat
  | 0, k => k
  | f + 1, k => if agr cs seq k then k else fstGo cs seq f (k + 1)
/-- the first position from which on both agree -/
def fst14 (cs seq : List Int) : Nat := fstGo cs seq cs.length 0
theorem agr_end (cs seq : List Int) : agr cs seq cs.length = true := by simp [agr]
def IsFst (cs seq : List Int) (k : Nat) : Prop := k ≤ cs.length ∧ agr cs seq k = true ∧ ∀ j, j < k → agr cs seq j = false
theorem fstGo_is (cs seq : List Int) (f k : Nat) (h : f + k = cs.length) (hk : ∀ j, j < k → agr cs seq j = false) : IsFst cs seq (fstGo cs seq f k) := by
  induction f generalizing k with
  | zero =>
    rw [fstGo]
    refine ⟨by omega, ?_, hk⟩
    rw [show k = cs.length by omega]
    exact agr_end cs seq
  | succ f ih =>
    rw [fstGo]
    by_cases h1 : agr cs seq k = true
    · rw [if_pos h1]
      exact ⟨by omega, h1, hk⟩
    · rw [if_neg h1]
      refine ih (k + 1) (by omega) fun j hj => ?_
      rcases Nat.lt_succ_iff_lt_or_eq.1 hj with h2 | rfl
      · exact hk j h2
      · simpa using h1
theorem fst_is (cs seq : List Int) : IsFst cs seq (fst14 cs seq) := fstGo_is cs seq cs.length 0 (by omega) (fun j hj => by omega)
theorem fst_eq {cs seq : List Int} {k : Nat} (h : IsFst cs seq k) : fst14 cs seq = k := by
  have h2 := fst_is cs seq
  rcases Nat.lt_trichotomy (fst14 cs seq) k with h3 | h3 | h3
  · have := h.2.2 _ h3
    rw [h2.2.1] at this; cases this
  · exact h3
  · have := h2.2.2 _ h3
    rw [h.2.1] at this; cases this
/-- what is missing is put behind -/
def put14 (cs seq : List Int) : List Int := cs ++ seq.drop (cs.length - fst14 cs seq)
theorem put_at (cs seq : List Int) : ((put14 cs seq).drop (fst14 cs seq)).take seq.length = seq := by
  obtain ⟨h1, h2, _⟩ := fst_is cs seq
  generalize hk : fst14 cs seq = k at h1 h2
  unfold put14
  rw [hk, List.drop_append, show k - cs.length = 0 by omega, List.drop_zero]
  have ha : (cs.drop k).take seq.length = seq.take (cs.length - k) := by simpa [agr] using h2
  have hl : (cs.drop k).length = cs.length - k := List.length_drop
  generalize cs.drop k = d at ha hl
  generalize cs.length - k = m at ha hl
  rcases Nat.lt_or_ge seq.length m with h | h
  · rw [List.drop_eq_nil_of_le (by omega), List.append_nil, ha, List.take_of_length_le (by omega)]
  · rw [List.take_of_length_le (by omega)] at ha
    subst ha
    rw [List.take_append_drop, List.take_length]
theorem put_len (cs seq : List Int) : fst14 cs seq + seq.length ≤ (put14 cs seq).length ∧ (put14 cs seq).length ≤ cs.length + seq.length ∧ cs.length ≤ (put14 cs seq).length := by
  obtain ⟨h1, _, _⟩ := fst_is cs seq
  unfold put14
  simp
  omega
theorem put_take (cs seq : List Int) : (put14 cs seq).take cs.length = cs := by
  unfold put14
  simp
structure Pl where
  C : List Int
  S : List Int
  L : List Int
def Pl.nil : Pl := ⟨[], [], []⟩
def add14 (p : Pl) (seq : List Int) : Pl := ⟨put14 p.C seq, p.S ++ [(fst14 p.C seq : Int)], p.L ++ [(seq.length : Int)]⟩
def pack14 (l : List (List Int)) : Pl := l.foldl add14 Pl.nil
def okJ (n : Nat) (s l : Int) : Bool := decide (0 ≤ s ∧ 0 ≤ l ∧ s + l ≤ n)
def vldP (n : Nat) (ss ls : List Int) : Bool := (ss.length == ls.length) && (List.range ss.length).all fun j => okJ n (ss.getD j 0) (ls.getD j 0)
theorem vldP_iff (n : Nat) (ss ls : List Int) : vldP n ss ls = true ↔ ss.length = ls.length ∧ ∀ j, j < ss.length → okJ n (ss.getD j 0) (ls.getD j 0) = true := by
  simp [vldP]
theorem vldP_bad {n : Nat} {ss ls : List Int} (j : Nat) (hj : j < ss.length) (h : okJ n (ss.getD j 0) (ls.getD j 0) = false) : vldP n ss ls = false := by
  cases hv : vldP n ss ls with
  | false => rfl
  | true =>
    have := ((vldP_iff n ss ls).1 hv).2 j hj
    rw [h] at this; cases this
theorem vldP_len {n : Nat} {ss ls : List Int} (h : ss.length ≠ ls.length) : vldP n ss ls = false := by
  cases hv : vldP n ss ls with
  | false => rfl
  | true => exact absurd ((vldP_iff n ss ls).1 hv).1 h
/-- the sequence with index i of a valid pool -/
def seqAt (p : Pl) (i : Nat) : List Int := (p.C.drop (p.S.getD i 0).toNat).take (p.L.getD i 0).toNat
def vld14 (p : Pl) : Bool := vldP p.C.length p.S p.L
def get14 (p : Pl) (i : Int) : List Int × Bool := if vld14 p = true ∧ 0 ≤ i ∧ i < p.S.length then (seqAt p i.toNat, true) else ([], false)
def findGo (p : Pl) (seq : List Int) : Nat → Nat → Int × Bool
  | 0, _ => (0, false)
  | f + 1, k => if seqAt p k = seq then ((k : Int), true) else findGo p seq f (k + 1)
def find14 (p : Pl) (seq : List Int) : Int × Bool := if vld14 p then findGo p seq p.S.length 0 else (0, false)
def own14 (p : Pl) : Pl := if vld14 p then p else Pl.nil
end Go.UtYteobffcnfigilaa
