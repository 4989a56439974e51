/-
  Pools of sequences: the plain laws.
-/
import Derived.Test.YteobffcnfigilaaSp0
namespace Go.UtYteobffcnfigilaa
theorem vld_nil : vld14 Pl.nil = true := by decide
theorem getD_append_left {xs ys : List Int} {k : Nat} (h : k < xs.length) : (xs ++ ys).getD k 0 = xs.getD k 0 := by simp [List.getD, List.getElem?_append_left h]
theorem getD_append_end {xs : List Int} {y : Int} : (xs ++ [y]).getD xs.length 0 = y := by simp [List.getD]
theorem vld_len {p : Pl} (h : vld14 p = true) : p.S.length = p.L.length := ((vldP_iff _ _ _).1 h).1
theorem vld_ok {p : Pl} (h : vld14 p = true) {j : Nat} (hj : j < p.S.length) : 0 ≤ p.S.getD j 0 ∧ 0 ≤ p.L.getD j 0 ∧ p.S.getD j 0 + p.L.getD j 0 ≤ p.C.length := of_decide_eq_true (((vldP_iff _ _ _).1 h).2 j hj)
theorem vld_add {p : Pl} (h : vld14 p = true) (seq : List Int) : vld14 (add14 p seq) = true := by
  obtain ⟨a1, a2, a3⟩ := put_len p.C seq
  refine (vldP_iff _ _ _).2 ⟨by simp [add14, vld_len h], fun j hj => ?_⟩
  have hl := vld_len h
  simp only [add14, List.length_append, List.length_cons, List.length_nil] at hj
  unfold okJ
  rw [decide_eq_true_iff]
  show 0 ≤ (p.S ++ [_]).getD j 0 ∧ 0 ≤ (p.L ++ [_]).getD j 0 ∧ (p.S ++ [_]).getD j 0 + (p.L ++ [_]).getD j 0 ≤ ((put14 p.C seq).length : Int)
  rcases Nat.lt_or_ge j p.S.length with h1 | h1
  · rw [getD_append_left h1, getD_append_left (by omega)]
    obtain ⟨b1, b2, b3⟩ := vld_ok h h1
    refine ⟨b1, b2, by omega⟩
  · obtain rfl : j = p.S.length := by omega
    rw [getD_append_end, hl, getD_append_end]
    refine ⟨by omega, by omega, by omega⟩
theorem seqAt_old {p : Pl} (h : vld14 p = true) (seq : List Int) {j : Nat} (hj : j < p.S.length) : seqAt (add14 p seq) j = seqAt p j := by
  have hl := vld_len h
  obtain ⟨b1, b2, b3⟩ := vld_ok h hj
  unfold seqAt
  show ((put14 p.C seq).drop ((p.S ++ [_]).getD j 0).toNat).take ((p.L ++ [_]).getD j 0).toNat = _
  rw [getD_append_left hj, getD_append_left (by omega)]
  unfold put14
  rw [List.drop_append, List.take_append, show ((p.L.getD j 0).toNat - (List.drop (p.S.getD j 0).toNat p.C).length) = 0 by rw [List.length_drop]; omega, List.take_zero, List.append_nil]
theorem seqAt_new {p : Pl} (h : vld14 p = true) (seq : List Int) : seqAt (add14 p seq) p.S.length = seq := by
  have hl := vld_len h
  unfold seqAt
  show ((put14 p.C seq).drop ((p.S ++ [_]).getD p.S.length 0).toNat).take ((p.L ++ [_]).getD p.S.length 0).toNat = _
  rw [getD_append_end, hl, getD_append_end]
  exact put_at p.C seq
theorem pack_append (l : List (List Int)) (x : List Int) : pack14 (l ++ [x]) = add14 (pack14 l) x := by
  unfold pack14
  rw [List.foldl_append]
  rfl
theorem pack_facts (l : List (List Int)) : vld14 (pack14 l) = true ∧ (pack14 l).S.length = l.length ∧ ∀ (j : Nat) (xs : List Int), l[j]? = some xs → seqAt (pack14 l) j = xs := by
  have H : ∀ n (l : List (List Int)), l.length = n → vld14 (pack14 l) = true ∧ (pack14 l).S.length = l.length ∧ ∀ (j : Nat) (xs : List Int), l[j]? = some xs → seqAt (pack14 l) j = xs := by
    intro n
    induction n with
    | zero =>
      intro l hl
      obtain rfl : l = [] := List.eq_nil_of_length_eq_zero hl
      exact ⟨vld_nil, rfl, fun j xs h => by simp at h⟩
    | succ n ih =>
      intro l hl
      obtain ⟨m, x, rfl⟩ : ∃ m x, l = m ++ [x] := by
        refine ⟨l.dropLast, l.getLast (by intro h; subst h; simp at hl), ?_⟩
        exact (List.dropLast_concat_getLast _).symm
      obtain ⟨a1, a2, a3⟩ := ih m (by simpa using hl)
      rw [pack_append]
      refine ⟨vld_add a1 x, by simp [add14, a2], fun j xs hj => ?_⟩
      rcases Nat.lt_or_ge j m.length with h1 | h1
      · rw [List.getElem?_append_left h1] at hj
        rw [seqAt_old a1 x (by omega)]
        exact a3 j xs hj
      · have h2 : j < m.length + 1 := by
          have := (List.getElem?_eq_some_iff.1 hj).1
          simpa using this
        obtain rfl : j = m.length := by omega
        rw [List.getElem?_append_right (Nat.le_refl _), Nat.sub_self] at hj
        simp at hj
        subst hj
        rw [← a2]
        exact seqAt_new a1 x
  exact H l.length l rfl
theorem own_pack (l : List (List Int)) : own14 (pack14 l) = pack14 l := by unfold own14; rw [if_pos (pack_facts l).1]
theorem own_add {p : Pl} (h : vld14 p = true) : own14 p = p := by unfold own14; rw [if_pos h]
/-- what is there already needs no room -/
theorem put_in {cs seq : List Int} {j : Nat} (hj : j + seq.length ≤ cs.length) (h : (cs.drop j).take seq.length = seq) : put14 cs seq = cs := by
  obtain ⟨h1, h2, h3⟩ := fst_is cs seq
  have ha : agr cs seq j = true := by
    unfold agr
    rw [h, List.take_of_length_le (by omega)]
    simp
  have : fst14 cs seq ≤ j := by
    rcases Nat.lt_or_ge j (fst14 cs seq) with h4 | h4
    · have := h3 j h4
      rw [ha] at this
      cases this
    · exact h4
  unfold put14
  rw [List.drop_eq_nil_of_le (by omega), List.append_nil]
theorem pack_part {l : List (List Int)} {j : Nat} {xs : List Int} (h : l[j]? = some xs) (lo n : Nat) (hn : lo + n ≤ xs.length) : put14 (pack14 l).C ((xs.drop lo).take n) = (pack14 l).C := by
  obtain ⟨a1, a2, a3⟩ := pack_facts l
  have hj : j < (pack14 l).S.length := by rw [a2]; exact (List.getElem?_eq_some_iff.1 h).1
  obtain ⟨b1, b2, b3⟩ := vld_ok a1 hj
  have h2 := a3 j xs h
  unfold seqAt at h2
  generalize (pack14 l).S.getD j 0 = s at b1 b3 h2
  generalize (pack14 l).L.getD j 0 = m at b2 b3 h2
  generalize (pack14 l).C = C at b3 h2
  have hx : xs.length = min m.toNat (C.length - s.toNat) := by rw [← h2]; simp
  have hl : ((xs.drop lo).take n).length = n := by simp; omega
  have e : (C.drop (s.toNat + lo)).take n = (xs.drop lo).take n := by
    rw [← h2, List.drop_take, List.take_take, List.drop_drop]
    congr 1
    omega
  refine put_in (j := s.toNat + lo) (by rw [hl]; omega) ?_
  rw [hl]
  exact e
def total (l : List (List Int)) : Nat := (l.map List.length).sum
theorem pack_size (l : List (List Int)) : (pack14 l).C.length ≤ total l := by
  have H : ∀ (l : List (List Int)) (p : Pl), (l.foldl add14 p).C.length ≤ p.C.length + total l := by
    intro l
    induction l with
    | nil => intro p; simp [total]
    | cons x l ih =>
      intro p
      have := ih (add14 p x)
      have h1 : (add14 p x).C.length ≤ p.C.length + x.length := (put_len p.C x).2.1
      simp only [List.foldl_cons, total, List.map_cons, List.sum_cons] at this ⊢
      omega
  have := H l Pl.nil
  simpa [Pl.nil, pack14] using this
theorem get_pack {l : List (List Int)} {j : Nat} {xs : List Int} (h : l[j]? = some xs) : get14 (pack14 l) (j : Int) = (xs, true) := by
  obtain ⟨a1, a2, a3⟩ := pack_facts l
  have hj : j < l.length := (List.getElem?_eq_some_iff.1 h).1
  unfold get14
  rw [if_pos ⟨a1, by omega, by omega⟩, ← a3 j xs h]
  rfl
theorem get_out {p : Pl} {i : Int} (h : ¬ (0 ≤ i ∧ i < p.S.length)) : get14 p i = ([], false) := by
  unfold get14
  rw [if_neg (fun h' => h h'.2)]
end Go.UtYteobffcnfigilaa
