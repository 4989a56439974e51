/-
  Plain: boundaries ascend; how many lie behind and ahead of a position; the parts of a text and its boundaries.
-/
import Derived.Test.YtkpblieanejmeaaBs2
namespace Go.UtYtkpblieanejmeaa
theorem ends_sorted (acts : List Int) : List.Pairwise (· < ·) (endsL acts) := by
  unfold endsL
  rw [List.pairwise_map]
  exact List.Pairwise.imp (fun h => by omega) (List.Pairwise.filter _ List.pairwise_lt_range)
theorem ends_mem {acts : List Int} {a : Int} : a ∈ endsL acts ↔ ∃ i : Nat, a = (i : Int) ∧ i < acts.length ∧ acts.getD i 1 ≠ 1 := by
  unfold endsL
  simp only [List.mem_map, List.mem_filter, List.mem_range, decide_eq_true_eq]
  constructor
  · rintro ⟨i, ⟨h1, h2⟩, rfl⟩
    exact ⟨i, rfl, h1, h2⟩
  · rintro ⟨i, rfl, h1, h2⟩
    exact ⟨i, ⟨h1, h2⟩, rfl⟩
def cntGt (b : List Int) (x : Int) : Nat := (b.filter fun q => decide (x < q)).length
def cntLt (b : List Int) (x : Int) : Nat := (b.filter fun q => decide (q < x)).length
theorem cntGt_le (b : List Int) (x : Int) : cntGt b x ≤ b.length := List.length_filter_le _ _
theorem cntLt_le (b : List Int) (x : Int) : cntLt b x ≤ b.length := List.length_filter_le _ _
theorem cnt_all : ∀ {b : List Int}, List.Pairwise (· < ·) b → ∀ a : Int, cntGt b a + cntLt b a + (if a ∈ b then 1 else 0) = b.length
  | [], _, a => rfl
  | q :: b, hs, a => by
    have hq := fun z (hz : z ∈ b) => List.rel_of_pairwise_cons hs hz
    have ih := cnt_all (List.Pairwise.of_cons hs) a
    unfold cntGt cntLt at ih ⊢
    rcases Int.lt_trichotomy a q with h | h | h
    · have h1 : decide (a < q) = true := decide_eq_true h
      have h2 : decide (q < a) = false := decide_eq_false (by omega)
      have h3 : a ∈ q :: b ↔ a ∈ b := by simp; omega
      simp only [List.filter_cons, h1, h2, if_true, Bool.false_eq_true, if_false, List.length_cons, h3]
      omega
    · subst h
      have hn : a ∉ b := fun hm => by have := hq _ hm; omega
      have h1 : decide (a < a) = false := by simp
      simp only [List.filter_cons, h1, Bool.false_eq_true, if_false, List.length_cons, List.mem_cons, true_or, if_true]
      rw [if_neg hn] at ih
      omega
    · have h1 : decide (a < q) = false := decide_eq_false (by omega)
      have h2 : decide (q < a) = true := decide_eq_true h
      have h3 : a ∈ q :: b ↔ a ∈ b := by simp; omega
      simp only [List.filter_cons, h1, h2, if_true, Bool.false_eq_true, if_false, List.length_cons, h3]
      omega
theorem next_cases {b : List Int} (hs : List.Pairwise (· < ·) b) (hn : ∀ q ∈ b, 0 ≤ q) (x : Int) : (nextL b x < 0 ∧ nextL b x = -1 ∧ cntGt b x = 0) ∨ (0 ≤ nextL b x ∧ x < nextL b x ∧ nextL b x ∈ b ∧ cntGt b (nextL b x) + 1 = cntGt b x) := by
  unfold nextL
  cases hf : b.find? (fun q => decide (x < q)) with
  | none =>
    left
    have h := List.find?_eq_none.1 hf
    refine ⟨by simp, rfl, ?_⟩
    unfold cntGt
    rw [List.length_eq_zero_iff, List.filter_eq_nil_iff]
    exact h
  | some v =>
    right
    have hv := List.find?_some hf
    have hm := List.mem_of_find?_eq_some hf
    obtain ⟨-, pre, post, rfl, hpre⟩ := List.find?_eq_some_iff_append.1 hf
    simp only [Option.getD_some]
    have hxv : x < v := by simpa using hv
    refine ⟨hn v hm, hxv, hm, ?_⟩
    rw [List.pairwise_append] at hs
    obtain ⟨-, h2, h3⟩ := hs
    have h2' := fun z (hz : z ∈ post) => List.rel_of_pairwise_cons h2 hz
    unfold cntGt
    have e1 : pre.filter (fun q => decide (x < q)) = [] := List.filter_eq_nil_iff.2 (fun z hz => by simpa using hpre z hz)
    have e2 : pre.filter (fun q => decide (v < q)) = [] := List.filter_eq_nil_iff.2 (fun z hz => by have := h3 z hz v (by simp); simp; omega)
    have e3 : post.filter (fun q => decide (x < q)) = post := List.filter_eq_self.2 (fun z hz => by have := h2' z hz; simp; omega)
    have e4 : post.filter (fun q => decide (v < q)) = post := List.filter_eq_self.2 (fun z hz => by have := h2' z hz; simp; omega)
    have d1 : decide (x < v) = true := decide_eq_true hxv
    have d2 : decide (v < v) = false := by simp
    rw [List.filter_append, List.filter_append, e1, e2, List.filter_cons, List.filter_cons, d1, d2, e3, e4]
    simp
theorem prev_cases {b : List Int} (hs : List.Pairwise (· < ·) b) (hn : ∀ q ∈ b, 0 ≤ q) (x : Int) : (prevL b x < 0 ∧ prevL b x = -1 ∧ cntLt b x = 0) ∨ (0 ≤ prevL b x ∧ prevL b x < x ∧ prevL b x ∈ b ∧ cntLt b (prevL b x) + 1 = cntLt b x) := by
  unfold prevL
  obtain ⟨f, hf⟩ : ∃ f, b.filter (fun q => decide (q < x)) = f := ⟨_, rfl⟩
  have hfs : List.Pairwise (· < ·) f := hf ▸ List.Pairwise.filter _ hs
  have hfm : ∀ z ∈ f, z ∈ b ∧ z < x := fun z hz => by rw [← hf] at hz; simpa using List.mem_filter.1 hz
  rw [hf]
  rcases List.eq_nil_or_concat f with h | ⟨g, v, h⟩
  · left
    subst h
    exact ⟨by simp, rfl, by unfold cntLt; rw [hf]; rfl⟩
  · right
    rw [List.concat_eq_append] at h
    subst h
    simp only [List.getLast?_append, List.getLast?_singleton, Option.some_or, Option.getD_some]
    obtain ⟨hvb, hvx⟩ := hfm v (by simp)
    refine ⟨hn v hvb, hvx, hvb, ?_⟩
    have e1 : b.filter (fun q => decide (q < v)) = g := by
      have h1 : b.filter (fun q => decide (q < v)) = (b.filter (fun q => decide (q < x))).filter (fun q => decide (q < v)) := by
        rw [List.filter_filter]
        apply List.filter_congr
        intro z _
        by_cases hz : z < v
        · simp [hz, show z < x by omega]
        · simp [hz]
      rw [h1, hf, List.filter_append]
      rw [List.pairwise_append] at hfs
      have h2 : g.filter (fun q => decide (q < v)) = g := List.filter_eq_self.2 (fun z hz => by have := hfs.2.2 z hz v (by simp); simpa using this)
      rw [h2]
      simp
    unfold cntLt
    rw [e1, hf]
    simp
end Go.UtYtkpblieanejmeaa
namespace Go.Proofs.Ytkpblieanejmeaa
open Go.UtYtkpblieanejmeaa
theorem bnd_sorted (p : PR) (t : BT) (text : List Int) : List.Pairwise (· < ·) (bndL p t text) := by
  rw [bnd_eq]
  exact ends_sorted _
theorem bnd_pos (p : PR) (t : BT) (text : List Int) : ∀ q ∈ bndL p t text, 0 ≤ q := fun q hq => by
  rw [bnd_eq] at hq
  obtain ⟨i, rfl, _⟩ := ends_mem.1 hq
  omega
theorem pts_parted {p : PR} {t : BT} {text : List Int} (h : validT t) : Parted (acV p t text) text.length (text.length + 1) (ptsL p t text) text.length := by
  have hl := acV_full (p := p) (text := text) h
  have := prt_parted (acts := acV p t text) (last := text.length) (text.length + 1) (Nat.le_refl _)
  rw [prt_end hl] at this
  unfold ptsL prtL
  rw [hl, Nat.add_sub_cancel]
  exact this
/-- what Around returns, for a valid table -/
theorem around_cases {p : PR} {t : BT} {text : List Int} {a : Int} (h : validT t) : (arV (ptsL p t text) a = (0, 0, false) ∧ ¬ (0 ≤ a ∧ a < (text.length : Int))) ∨
    ∃ lo hi : Nat, arV (ptsL p t text) a = ((lo : Int), (hi : Int), true) ∧ (0 ≤ a ∧ a < (text.length : Int)) ∧ (lo : Int) ≤ a ∧ a < (hi : Int) ∧ hi ≤ text.length ∧ (∀ i : Nat, lo < i → i < hi → (i : Int) ∉ bndL p t text) ∧ (lo = 0 ∨ (lo : Int) ∈ bndL p t text) ∧ (hi = text.length ∨ (hi : Int) ∈ bndL p t text) := by
  have hp := pts_parted (p := p) (text := text) h
  have hl := acV_full (p := p) (text := text) h
  unfold arV
  cases hf : arL (ptsL p t text) a with
  | none =>
    left
    refine ⟨rfl, fun ha => ?_⟩
    obtain ⟨r, hr, h1, h2⟩ := hp.cover a ha.1 ha.2
    have := List.find?_eq_none.1 hf r hr
    simp [h1, h2] at this
  | some r =>
    right
    have hm := List.mem_of_find?_eq_some hf
    have hq := List.find?_some hf
    simp only [Bool.and_eq_true, decide_eq_true_eq] at hq
    obtain ⟨p1, p2, p3⟩ := hp.pos r hm
    obtain ⟨lo, hlo⟩ : ∃ lo : Nat, r.1 = (lo : Int) := ⟨r.1.toNat, by omega⟩
    obtain ⟨hi, hhi⟩ : ∃ hi : Nat, r.2 = (hi : Int) := ⟨r.2.toNat, by omega⟩
    have hin := hp.inside r hm
    have hfi := hp.first r hm
    have hen := hp.end_ r hm
    rw [hlo, hhi] at p2 hq
    rw [hlo] at hfi hin p1
    rw [hhi] at hen hin p3
    have hmem : ∀ i : Nat, i < text.length → (acV p t text).getD i 0 ≠ 1 → (i : Int) ∈ bndL p t text := fun i hi h1 => by
      rw [bnd_eq]
      exact ends_mem.2 ⟨i, rfl, by omega, by rwa [getD_any (by omega) 1 0]⟩
    refine ⟨lo, hi, by rw [← hlo, ← hhi], ⟨by omega, by omega⟩, hq.1, hq.2, by omega, fun i h1 h2 hb => ?_, ?_, ?_⟩
    · rw [bnd_eq] at hb
      obtain ⟨j, hj, hj1, hj2⟩ := ends_mem.1 hb
      obtain rfl : i = j := by omega
      rw [getD_any hj1 1 0] at hj2
      exact hj2 (hin i (by omega) (by omega))
    · rcases hfi with e | ⟨i, e, h1, h2⟩
      · exact .inl (by omega)
      · obtain rfl : lo = i := by omega
        exact .inr (hmem _ h1 h2)
    · rcases hen with e | ⟨i, e, h1, h2⟩
      · exact .inl (by omega)
      · obtain rfl : hi = i := by omega
        exact .inr (hmem _ h1 h2)
end Go.Proofs.Ytkpblieanejmeaa
