/-
  law31.divided (or law54.divided): the table of the example; the property of the example.
-/
import Derived.Test.YtkpblieanejmeaaBq5
namespace Go.UtYtkpblieanejmeaa
open Go.RowKit
/-- the table of the example, and the property -/
def exT : BT := ⟨[[65], [66]], [1], [[1, 0], [1, 0]], [[], [0]], [[0, 1], [0, 1]], [[], [0]]⟩
def exP : PR := ⟨[[65], [66]], [(98, 98, 1)]⟩
theorem dist_two {α : Type} {a b : α} (h : a ≠ b) : distL [a, b] := by
  intro i j x y hij hx hy
  have hj := (List.getElem?_eq_some_iff.1 hy).1
  simp at hj
  obtain rfl : j = 1 := by omega
  obtain rfl : i = 0 := by omega
  simp at hx hy
  subst hx hy
  exact h
theorem exT_valid : validT exT := by
  refine ⟨⟨by decide, by decide, dist_two (by decide)⟩, by decide, by decide, ?_, ?_⟩
  · refine ⟨by decide, by decide, ?_, ?_⟩
    · intro r hr
      simp [exT] at hr
      subst hr
      exact ⟨rfl, by decide⟩
    · intro m hm
      simp [exT] at hm
      rcases hm with rfl | rfl
      · trivial
      · exact ⟨by decide, trivial⟩
  · refine ⟨by decide, by decide, ?_, ?_⟩
    · intro r hr
      simp [exT] at hr
      subst hr
      exact ⟨rfl, by decide⟩
    · intro m hm
      simp [exT] at hm
      rcases hm with rfl | rfl
      · trivial
      · exact ⟨by decide, trivial⟩
theorem exP_valid : validP exP := by
  refine ⟨⟨by decide, by decide, dist_two (by decide)⟩, ?_, ?_⟩
  · intro s hs
    simp [exP] at hs
    subst hs
    exact ⟨by decide, by decide, by decide, by decide, by decide⟩
  · intro i p s hp hs
    have h1 := (List.getElem?_eq_some_iff.1 hs).1
    simp [exP] at h1
theorem exC (l : List Int) : clsL exP exT l = l.map fun c => idxL exT.cls (exP.names.getD (getS exP.spans c).toNat []) := by
  unfold clsL nameV cntd
  simp only [if_pos exP_valid]
theorem exBnd (l : List Int) : bndL exP exT l = endsL (actsL exT (l.map fun c => idxL exT.cls (exP.names.getD (getS exP.spans c).toNat []))) := by
  unfold bndL
  rw [if_pos exT_valid, exC]
theorem Blk.rowB {w : World} {g t B : Nat} {cs : Array Value} {vs : List Value} (h : Blk w g t cs) (hv : cs.toList = vs) (hg : g < B) : Row w B (some ⟨g, 0, none⟩) vs := fun hne => by
  obtain ⟨b, o, e, _, hc⟩ := h.row hv hne
  injection e with e
  injection e with e1 e2
  subst e1 e2
  exact ⟨_, _, rfl, hg, hc⟩
end Go.UtYtkpblieanejmeaa
namespace Go.Proofs.Ytkpblieanejmeaa
open Go.RowKit Go.UtYtkpblieanejmeaa
/-- an automaton of two states over two classes, as the program lays it: the six new blocks -/
def autW (v : World) (s : Nat) (a b c d e : Int) : World :=
  (((((v.alloc (.cells #[.int .i64 a, .int .i64 b] 3)).alloc (.cells #[.int .i64 c, .int .i64 d] 3)).alloc (.cells #[.slice (some ⟨s, 0, none⟩) 2 2, .slice (some ⟨s + 1, 0, none⟩) 2 2] 26)).alloc (.cells #[.int .i64 e] 3)).alloc (.cells #[.slice none 0 0, .slice (some ⟨s + 1 + 1 + 1, 0, none⟩) 1 1] 26)).alloc (.cells #[.slice (some ⟨s + 1 + 1, 0, none⟩) 2 2, .slice (some ⟨s + 1 + 1 + 1 + 1, 0, none⟩) 2 2] 29)
theorem autW_size {v : World} {s : Nat} (a b c d e : Int) : (autW v s a b c d e).heap.size = v.heap.size + 1 + 1 + 1 + 1 + 1 + 1 := by simp [autW]
theorem autW_at {v : World} {s : Nat} (hs : v.heap.size = s) (a b c d e : Int) :
    Below s v (autW v s a b c d e) ∧ (∀ (u : World) (B : Nat), s + 1 + 1 + 1 + 1 + 1 ≤ B → (∀ k, s ≤ k → k < s + 1 + 1 + 1 + 1 + 1 → u.heap[k]? = (autW v s a b c d e).heap[k]?) → AutAt u B (some ⟨s + 1 + 1, 0, none⟩) 2 (some ⟨s + 1 + 1 + 1 + 1, 0, none⟩) 2 [[a, b], [c, d]] [[], [e]]) ∧
      Blk (autW v s a b c d e) (s + 1 + 1 + 1 + 1 + 1) 29 #[.slice (some ⟨s + 1 + 1, 0, none⟩) 2 2, .slice (some ⟨s + 1 + 1 + 1 + 1, 0, none⟩) 2 2] := by
  subst hs
  obtain ⟨s, hs⟩ : ∃ s, v.heap.size = s := ⟨_, rfl⟩
  rw [hs]
  have hz := autW_size (v := v) (s := s) a b c d e
  rw [hs] at hz
  unfold autW at hz ⊢
  obtain ⟨v1, h1⟩ : ∃ u, v.alloc (.cells #[.int .i64 a, .int .i64 b] 3) = u := ⟨_, rfl⟩
  have z1 : v1.heap.size = s + 1 := by rw [← h1]; simp [hs]
  have b1 : Blk v1 s 3 #[.int .i64 a, .int .i64 b] := by have := Blk.new v 3 #[.int .i64 a, .int .i64 b]; rwa [h1, hs] at this
  have B1 : Below s v v1 := by rw [← h1]; exact (Below.refl _ _).alloc (by omega) _
  obtain ⟨v2, h2⟩ : ∃ u, v1.alloc (.cells #[.int .i64 c, .int .i64 d] 3) = u := ⟨_, rfl⟩
  have z2 : v2.heap.size = s + 1 + 1 := by rw [← h2]; simp [z1]
  have b2 : Blk v2 (s + 1) 3 #[.int .i64 c, .int .i64 d] := by have := Blk.new v1 3 #[.int .i64 c, .int .i64 d]; rwa [h2, z1] at this
  have B2 : Below v1.heap.size v1 v2 := by rw [← h2]; exact (Below.refl _ _).alloc (Nat.le_refl _) _
  obtain ⟨v3, h3⟩ : ∃ u, v2.alloc (.cells #[.slice (some ⟨s, 0, none⟩) 2 2, .slice (some ⟨s + 1, 0, none⟩) 2 2] 26) = u := ⟨_, rfl⟩
  have z3 : v3.heap.size = s + 1 + 1 + 1 := by rw [← h3]; simp [z2]
  have b3 : Blk v3 (s + 1 + 1) 26 #[.slice (some ⟨s, 0, none⟩) 2 2, .slice (some ⟨s + 1, 0, none⟩) 2 2] := by have := Blk.new v2 26 #[.slice (some ⟨s, 0, none⟩) 2 2, .slice (some ⟨s + 1, 0, none⟩) 2 2]; rwa [h3, z2] at this
  have B3 : Below v2.heap.size v2 v3 := by rw [← h3]; exact (Below.refl _ _).alloc (Nat.le_refl _) _
  obtain ⟨v4, h4⟩ : ∃ u, v3.alloc (.cells #[.int .i64 e] 3) = u := ⟨_, rfl⟩
  have z4 : v4.heap.size = s + 1 + 1 + 1 + 1 := by rw [← h4]; simp [z3]
  have b4 : Blk v4 (s + 1 + 1 + 1) 3 #[.int .i64 e] := by have := Blk.new v3 3 #[.int .i64 e]; rwa [h4, z3] at this
  have B4 : Below v3.heap.size v3 v4 := by rw [← h4]; exact (Below.refl _ _).alloc (Nat.le_refl _) _
  obtain ⟨v5, h5⟩ : ∃ u, v4.alloc (.cells #[.slice none 0 0, .slice (some ⟨s + 1 + 1 + 1, 0, none⟩) 1 1] 26) = u := ⟨_, rfl⟩
  have z5 : v5.heap.size = s + 1 + 1 + 1 + 1 + 1 := by rw [← h5]; simp [z4]
  have b5 : Blk v5 (s + 1 + 1 + 1 + 1) 26 #[.slice none 0 0, .slice (some ⟨s + 1 + 1 + 1, 0, none⟩) 1 1] := by have := Blk.new v4 26 #[.slice none 0 0, .slice (some ⟨s + 1 + 1 + 1, 0, none⟩) 1 1]; rwa [h5, z4] at this
  have B5 : Below v4.heap.size v4 v5 := by rw [← h5]; exact (Below.refl _ _).alloc (Nat.le_refl _) _
  rw [h1, h2, h3, h4, h5] at hz ⊢
  obtain ⟨v6, h6⟩ : ∃ u, v5.alloc (.cells #[.slice (some ⟨s + 1 + 1, 0, none⟩) 2 2, .slice (some ⟨s + 1 + 1 + 1 + 1, 0, none⟩) 2 2] 29) = u := ⟨_, rfl⟩
  have b6 : Blk v6 (s + 1 + 1 + 1 + 1 + 1) 29 #[.slice (some ⟨s + 1 + 1, 0, none⟩) 2 2, .slice (some ⟨s + 1 + 1 + 1 + 1, 0, none⟩) 2 2] := by
    have := Blk.new v5 29 #[.slice (some ⟨s + 1 + 1, 0, none⟩) 2 2, .slice (some ⟨s + 1 + 1 + 1 + 1, 0, none⟩) 2 2]
    rwa [z5, h6] at this
  have B6 : Below v5.heap.size v5 v6 := by
    rw [← h6]
    exact (Below.refl _ _).alloc (Nat.le_refl _) _
  rw [h6] at hz ⊢
  clear h1 h2 h3 h4 h5 h6
  have c5 : Below s v v6 := B1.trans ((B2.trans ((B3.trans ((B4.trans ((B5.trans (B6.mono B5.size)).mono B4.size)).mono B3.size)).mono B2.size)).mono (by omega))
  have q1 := ((((b1.after B2).after B3).after B4).after B5).after B6
  have q2 := (((b2.after B3).after B4).after B5).after B6
  have q3 := ((b3.after B4).after B5).after B6
  have q4 := (b4.after B5).after B6
  have q5 := b5.after B6
  refine ⟨c5, fun u B hBB hu => ?_, b6⟩
  replace q1 : Blk u s _ _ := (hu _ (by omega) (by omega)).trans q1
  replace q2 : Blk u _ _ _ := (hu _ (by omega) (by omega)).trans q2
  replace q3 : Blk u _ _ _ := (hu _ (by omega) (by omega)).trans q3
  replace q4 : Blk u _ _ _ := (hu _ (by omega) (by omega)).trans q4
  replace q5 : Blk u _ _ _ := (hu _ (by omega) (by omega)).trans q5
  refine ⟨⟨⟨_, ?_, q3.rowB rfl (by omega), fun k xs hk => ?_⟩, by simp, by simp [maxLen]⟩, ⟨_, ?_, q5.rowB rfl (by omega), fun k xs hk => ?_⟩, by simp, by simp [maxLen]⟩
  · rfl
  · match k, hk with
    | 0, hk =>
      simp at hk
      subst hk
      exact ⟨_, 2, rfl, by simp, by simp [maxLen], q1.rowB rfl (by omega)⟩
    | 1, hk =>
      simp at hk
      subst hk
      exact ⟨_, 2, rfl, by simp, by simp [maxLen], q2.rowB rfl (by omega)⟩
  · rfl
  · match k, hk with
    | 0, hk =>
      simp at hk
      subst hk
      exact ⟨none, 0, rfl, by simp, by simp [maxLen], Row.nil⟩
    | 1, hk =>
      simp at hk
      subst hk
      exact ⟨_, 1, rfl, by simp, by simp [maxLen], q4.rowB rfl (by omega)⟩
end Go.Proofs.Ytkpblieanejmeaa
