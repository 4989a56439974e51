/-
  Plain: the list of synchronizing pairs, the parts between boundaries.
-/
import Derived.Test.YtkoojoogddndnaaBa1
namespace Go.UtYtkoojoogddndnaa
/-- the synchronizing pairs of the class x with the classes up to j -/
def syncP (nx : List (List Int)) (x j : Nat) : List (Int × Int × Int) := ((List.range j).filter fun (y : Nat) => sngB nx (x : Int) (y : Int)).map fun (y : Nat) => ((x : Int), (y : Int), aft nx 0 (x : Int) (y : Int))
/-- those of the classes up to n -/
def syncN (nx : List (List Int)) (k n : Nat) : List (Int × Int × Int) := (List.range n).flatMap fun x => syncP nx x k
open Classical in
noncomputable def syncL (t : BT) : List (Int × Int × Int) := if validT t then syncN t.ln t.cls.length t.cls.length else []
theorem syncP_succ (nx : List (List Int)) (x j : Nat) : syncP nx x (j + 1) = syncP nx x j ++ (if sngB nx (x : Int) (j : Int) then [((x : Int), (j : Int), aft nx 0 (x : Int) (j : Int))] else []) := by
  unfold syncP
  rw [List.range_succ, List.filter_append, List.map_append]
  congr 1
  cases h : sngB nx (x : Int) (j : Int) <;> simp [h]
theorem syncN_succ (nx : List (List Int)) (k n : Nat) : syncN nx k (n + 1) = syncN nx k n ++ syncP nx n k := by
  unfold syncN
  rw [List.range_succ, List.flatMap_append]
  simp
theorem syncP_zero (nx : List (List Int)) (x : Nat) : syncP nx x 0 = [] := rfl
theorem syncN_zero (nx : List (List Int)) (k : Nat) : syncN nx k 0 = [] := rfl
theorem syncP_len (nx : List (List Int)) (x j : Nat) : (syncP nx x j).length ≤ j := by
  unfold syncP
  rw [List.length_map]
  exact Nat.le_trans (List.length_filter_le _ _) (by simp)
theorem syncN_len (nx : List (List Int)) (k : Nat) : ∀ n, (syncN nx k n).length ≤ n * k
  | 0 => by simp [syncN]
  | n + 1 => by
    rw [syncN_succ, List.length_append, Nat.add_mul, Nat.one_mul]
    have := syncN_len nx k n
    have := syncP_len nx n k
    omega
theorem syncL_pos {t : BT} (h : validT t) : syncL t = syncN t.ln t.cls.length t.cls.length := by unfold syncL; rw [if_pos h]
theorem syncL_neg {t : BT} (h : ¬ validT t) : syncL t = [] := by unfold syncL; rw [if_neg h]
theorem syncL_len {t : BT} : (syncL t).length ≤ 3600 := by
  by_cases h : validT t
  · rw [syncL_pos h]
    refine Nat.le_trans (syncN_len _ _ _) ?_
    have h1 := h.1.1.2
    exact Nat.le_trans (Nat.mul_le_mul h1 h1) (by omega)
  · rw [syncL_neg h]
    simp
/-- what a pair of the list is -/
theorem syncL_mem {t : BT} {q : Int × Int × Int} (h : q ∈ syncL t) : validT t ∧ ∃ x y : Nat, x < t.cls.length ∧ y < t.cls.length ∧ q = ((x : Int), (y : Int), aft t.ln 0 x y) ∧ sngB t.ln (x : Int) (y : Int) = true := by
  by_cases hv : validT t
  · refine ⟨hv, ?_⟩
    rw [syncL_pos hv] at h
    unfold syncN at h
    obtain ⟨x, hx, h⟩ := List.mem_flatMap.1 h
    unfold syncP at h
    obtain ⟨y, hy, rfl⟩ := List.mem_map.1 h
    obtain ⟨hy, hs⟩ := List.mem_filter.1 hy
    exact ⟨x, y, by simpa using hx, by simpa using hy, rfl, hs⟩
  · rw [syncL_neg hv] at h
    cases h
/-- after a synchronizing pair the state is that of the pair -/
theorem sync_state {t : BT} {l : List Int} {x y : Nat} (hv : validT t) (_hx : x < t.cls.length) (_hy : y < t.cls.length) (hl : fitsL t l) (hs : sngB t.ln (x : Int) (y : Int) = true) : runA t.ln 0 (l ++ [(x : Int), (y : Int)]) = aft t.ln 0 x y := by
  have hso := hv.2.2.2.1
  have hf := runA_fit hso l 0 ⟨by omega, by have := hso.1.1; omega⟩ hl
  obtain ⟨s, hsn⟩ : ∃ s : Nat, runA t.ln 0 l = (s : Int) := ⟨(runA t.ln 0 l).toNat, by omega⟩
  rw [show l ++ [(x : Int), (y : Int)] = l ++ [(x : Int)] ++ [(y : Int)] by simp, runA_snoc, runA_snoc, hsn]
  exact sng_all.1 hs s (by rw [hsn] at hf; omega)
/-- the parts up to position k: their list, and where the next one begins -/
def prtN (last : Nat) (acts : List Int) : Nat → List (Int × Int) × Nat
  | 0 => ([], 0)
  | k + 1 => if k = (prtN last acts k).2 ∨ (acts.getD k 0 = 1 ∧ k < last) then prtN last acts k else ((prtN last acts k).1 ++ [(((prtN last acts k).2 : Int), (k : Int))], k)
/-- the parts, by a list of actions -/
def prtL (acts : List Int) : List (Int × Int) := (prtN (acts.length - 1) acts acts.length).1
theorem prtN_lo (last : Nat) (acts : List Int) : ∀ k, (prtN last acts k).2 ≤ k ∧ (0 < k → (prtN last acts k).2 < k)
  | 0 => by simp [prtN]
  | k + 1 => by
    have := prtN_lo last acts k
    unfold prtN
    split
    · omega
    · simp
theorem prtN_len (last : Nat) (acts : List Int) : ∀ k, (prtN last acts k).1.length ≤ k
  | 0 => by simp [prtN]
  | k + 1 => by
    have := prtN_len last acts k
    unfold prtN
    split
    · omega
    · simp; omega
/-- one position of a list of boundaries: the ranges so far, and where the next one begins -/
def btwS (s : List (Int × Int) × Int) (b : Int) : List (Int × Int) × Int := if s.2 < b then (s.1 ++ [(s.2, b)], b) else s
def btwL (l : List Int) (n : Int) : List (Int × Int) := ((l ++ [n]).foldl btwS ([], 0)).1
/-- the boundaries below k -/
def endsK (acts : List Int) (k : Nat) : List Int := ((List.range k).filter fun i => decide (acts.getD i 1 ≠ 1)).map fun (i : Nat) => (i : Int)
theorem endsK_succ (acts : List Int) (k : Nat) : endsK acts (k + 1) = endsK acts k ++ (if acts.getD k 1 ≠ 1 then [(k : Int)] else []) := by
  unfold endsK
  rw [List.range_succ, List.filter_append, List.map_append]
  congr 1
  by_cases h : acts.getD k 1 = 1
  · rw [if_neg (fun h' => h' h)]
    rw [List.getD_eq_getElem?_getD] at h
    simp [h]
  · rw [if_pos h]
    rw [List.getD_eq_getElem?_getD] at h
    simp [h]
theorem endsK_all (acts : List Int) : endsK acts acts.length = endsL acts := rfl
theorem getD_any {l : List Int} {k : Nat} (h : k < l.length) (a b : Int) : l.getD k a = l.getD k b := by
  rw [List.getD_eq_getElem?_getD, List.getD_eq_getElem?_getD, List.getElem?_eq_getElem h]
  rfl
theorem prt_btw {acts : List Int} {last : Nat} (hl : acts.length = last + 1) : ∀ k, k ≤ last → (endsK acts k).foldl btwS ([], 0) = ((prtN last acts k).1, ((prtN last acts k).2 : Int))
  | 0, _ => rfl
  | k + 1, h => by
    have ih := prt_btw hl k (by omega)
    have hlo := prtN_lo last acts k
    rw [endsK_succ, List.foldl_append, ih]
    rw [show prtN last acts (k + 1) = (if k = (prtN last acts k).2 ∨ (acts.getD k 0 = 1 ∧ k < last) then prtN last acts k else ((prtN last acts k).1 ++ [(((prtN last acts k).2 : Int), (k : Int))], k)) from rfl]
    rw [getD_any (by omega) 0 1]
    by_cases h1 : acts.getD k 1 = 1
    · rw [if_neg (fun h' => h' h1), if_pos (.inr ⟨h1, by omega⟩)]
      rfl
    · rw [if_pos h1]
      simp only [List.foldl_cons, List.foldl_nil, btwS]
      by_cases h2 : k = (prtN last acts k).2
      · rw [if_neg (by omega), if_pos (.inl h2)]
      · rw [if_pos (by omega), if_neg (by rintro (h | h); exact h2 h; exact h1 h.1)]
theorem prtL_btw {acts : List Int} {n : Nat} (hl : acts.length = n + 1) : prtL acts = btwL (endsL acts) (n : Int) := by
  have ih := prt_btw hl n (Nat.le_refl _)
  have hlo := prtN_lo n acts n
  unfold prtL btwL
  rw [← endsK_all, hl, endsK_succ, Nat.add_sub_cancel, List.append_assoc, List.foldl_append, ih]
  rw [show prtN n acts (n + 1) = (if n = (prtN n acts n).2 ∨ (acts.getD n 0 = 1 ∧ n < n) then prtN n acts n else ((prtN n acts n).1 ++ [(((prtN n acts n).2 : Int), (n : Int))], n)) from rfl]
  by_cases h2 : n = (prtN n acts n).2
  · rw [if_pos (.inl h2)]
    have h3 : btwS ((prtN n acts n).1, ((prtN n acts n).2 : Int)) (n : Int) = ((prtN n acts n).1, ((prtN n acts n).2 : Int)) := by
      unfold btwS
      rw [if_neg (by simp only; omega)]
    split <;> simp [h3]
  · rw [if_neg (by rintro (h | h); exact h2 h; omega)]
    have h3 : btwS ((prtN n acts n).1, ((prtN n acts n).2 : Int)) (n : Int) = ((prtN n acts n).1 ++ [(((prtN n acts n).2 : Int), (n : Int))], (n : Int)) := by
      unfold btwS
      rw [if_pos (by simp only; omega)]
    have h4 : ∀ o, btwS (o, (n : Int)) (n : Int) = (o, (n : Int)) := by
      intro o
      unfold btwS
      rw [if_neg (by simp)]
    split <;> simp [h3, h4]
/-- the part that contains the position a -/
def arL (l : List (Int × Int)) (a : Int) : Option (Int × Int) := l.find? fun r => decide (r.1 ≤ a) && decide (a < r.2)
/-- the parts run from 0 to n; they end at boundaries or n, and have none inside -/
structure Parted (acts : List Int) (last k : Nat) (o : List (Int × Int)) (lo : Nat) : Prop where
  pos : ∀ r ∈ o, 0 ≤ r.1 ∧ r.1 < r.2 ∧ r.2 ≤ (lo : Int)
  cover : ∀ a : Int, 0 ≤ a → a < (lo : Int) → ∃ r ∈ o, r.1 ≤ a ∧ a < r.2
  inside : ∀ r ∈ o, ∀ i : Nat, r.1 < (i : Int) → (i : Int) < r.2 → acts.getD i 0 = 1
  first : ∀ r ∈ o, r.1 = 0 ∨ ∃ i : Nat, r.1 = (i : Int) ∧ i < last ∧ acts.getD i 0 ≠ 1
  end_ : ∀ r ∈ o, r.2 = (last : Int) ∨ ∃ i : Nat, r.2 = (i : Int) ∧ i < last ∧ acts.getD i 0 ≠ 1
  next : lo = 0 ∨ lo = last ∨ (lo < last ∧ acts.getD lo 0 ≠ 1)
  quiet : ∀ i : Nat, lo < i → i < k → acts.getD i 0 = 1
theorem prt_parted {acts : List Int} {last : Nat} : ∀ k, k ≤ last + 1 → Parted acts last k (prtN last acts k).1 (prtN last acts k).2
  | 0, _ => ⟨by simp [prtN], by simp [prtN], by simp [prtN], by simp [prtN], by simp [prtN], by simp [prtN], by intros; omega⟩
  | k + 1, h => by
    have ih := prt_parted (acts := acts) (last := last) k (by omega)
    have hlo := prtN_lo last acts k
    rw [show prtN last acts (k + 1) = (if k = (prtN last acts k).2 ∨ (acts.getD k 0 = 1 ∧ k < last) then prtN last acts k else ((prtN last acts k).1 ++ [(((prtN last acts k).2 : Int), (k : Int))], k)) from rfl]
    obtain ⟨lo, hlo'⟩ : ∃ lo, (prtN last acts k).2 = lo := ⟨_, rfl⟩
    obtain ⟨o, ho⟩ : ∃ o, (prtN last acts k).1 = o := ⟨_, rfl⟩
    rw [hlo', ho] at ih
    rw [hlo'] at hlo
    split
    · rename_i hc
      rw [hlo'] at hc
      rw [hlo', ho]
      refine ⟨ih.pos, ih.cover, ih.inside, ih.first, ih.end_, ih.next, fun i h1 h2 => ?_⟩
      by_cases e : i = k
      · subst e
        rcases hc with hc | hc
        · omega
        · exact hc.1
      · exact ih.quiet i h1 (by omega)
    · rename_i hc
      rw [hlo'] at hc
      rw [hlo', ho]
      have hne : k ≠ lo := fun e => hc (.inl e)
      have hk : k = last ∨ (k < last ∧ acts.getD k 0 ≠ 1) := by
        by_cases e : k = last
        · exact .inl e
        · exact .inr ⟨by omega, fun e' => hc (.inr ⟨e', by omega⟩)⟩
      refine ⟨fun r hr => ?_, fun a h1 h2 => ?_, fun r hr i h1 h2 => ?_, fun r hr => ?_, fun r hr => ?_, ?_, fun i h1 h2 => by omega⟩
      · rcases List.mem_append.1 hr with hr | hr
        · have := ih.pos r hr
          simp only
          omega
        · simp at hr
          subst hr
          simp only
          omega
      · by_cases hl : a < (lo : Int)
        · obtain ⟨r, hr, q⟩ := ih.cover a h1 hl
          exact ⟨r, by simp [hr], q⟩
        · refine ⟨((lo : Int), (k : Int)), by simp, ?_⟩
          simp only at h2 ⊢
          omega
      · rcases List.mem_append.1 hr with hr | hr
        · exact ih.inside r hr i h1 h2
        · simp at hr
          subst hr
          simp only at h1 h2
          exact ih.quiet i (by omega) (by omega)
      · rcases List.mem_append.1 hr with hr | hr
        · exact ih.first r hr
        · simp at hr
          subst hr
          simp only
          rcases ih.next with e | e | e
          · exact .inl (by omega)
          · omega
          · exact .inr ⟨lo, rfl, e.1, e.2⟩
      · rcases List.mem_append.1 hr with hr | hr
        · exact ih.end_ r hr
        · simp at hr
          subst hr
          simp only
          rcases hk with e | e
          · exact .inl (by omega)
          · exact .inr ⟨k, rfl, e.1, e.2⟩
      · rcases hk with e | e
        · exact .inr (.inl e)
        · exact .inr (.inr e)
theorem prt_end {acts : List Int} {n : Nat} (_hl : acts.length = n + 1) : (prtN n acts (n + 1)).2 = n := by
  have hlo := prtN_lo n acts n
  rw [show prtN n acts (n + 1) = (if n = (prtN n acts n).2 ∨ (acts.getD n 0 = 1 ∧ n < n) then prtN n acts n else ((prtN n acts n).1 ++ [(((prtN n acts n).2 : Int), (n : Int))], n)) from rfl]
  split
  · rename_i h
    rcases h with h | h
    · exact h.symm
    · omega
  · rfl
end Go.UtYtkoojoogddndnaa
