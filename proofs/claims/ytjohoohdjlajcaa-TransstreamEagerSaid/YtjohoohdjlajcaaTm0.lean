/-
  Rules that a text of the program makes: rows of sets and rules out of blocks.
-/
import Derived.Test.YtjohoohdjlajcaaTd1
import Derived.Test.YtjohoohdjlajcaaTd2
namespace Go.UtYtjohoohdjlajcaa
open Go.RowKit
section
variable {w : World} {b t : Nat}
theorem sets_blk1 {A1 : Option Addr} {c1 n1 : Nat} {s1 : List Rg} (hb : Blk w b t #[.slice A1 n1 c1]) (h1 : s1.length = n1) (h2 : n1 ≤ c1) (h3 : c1 ≤ maxLen) (h4 : Row w w.heap.size A1 (prs s1)) : SetsAt w w.heap.size (some ⟨b, 0, none⟩) [s1] := by
  refine ⟨[.slice A1 n1 c1], rfl, hb.row rfl, fun k s hs => ?_⟩
  have hk : k = 0 := by
    have := (List.getElem?_eq_some_iff.1 hs).1
    simpa using this
  subst hk
  simp at hs
  subst hs
  subst h1
  exact ⟨A1, c1, rfl, h2, h3, h4⟩
theorem sets_blk2 {A1 A2 : Option Addr} {c1 c2 n1 n2 : Nat} {s1 s2 : List Rg} (hb : Blk w b t #[.slice A1 n1 c1, .slice A2 n2 c2]) (h1 : s1.length = n1) (h2 : n1 ≤ c1) (h3 : c1 ≤ maxLen) (h4 : Row w w.heap.size A1 (prs s1)) (g1 : s2.length = n2) (g2 : n2 ≤ c2) (g3 : c2 ≤ maxLen) (g4 : Row w w.heap.size A2 (prs s2)) : SetsAt w w.heap.size (some ⟨b, 0, none⟩) [s1, s2] := by
  refine ⟨[.slice A1 n1 c1, .slice A2 n2 c2], rfl, hb.row rfl, fun k s hs => ?_⟩
  have hk : k < 2 := by
    have := (List.getElem?_eq_some_iff.1 hs).1
    simpa using this
  subst h1 g1
  rcases Nat.lt_or_ge k 1 with hk1 | hk1
  · obtain rfl : k = 0 := by omega
    simp at hs
    subst hs
    exact ⟨A1, c1, rfl, h2, h3, h4⟩
  · obtain rfl : k = 1 := by omega
    simp at hs
    subst hs
    exact ⟨A2, c2, rfl, g2, g3, g4⟩
theorem rule_of {Am Ar : Option Addr} {cm cr : Nat} {r : TR} {nm nr : Nat} (hb : r.bef = []) (ha : r.aft = []) (hm : SetsAt w w.heap.size Am r.mat) (hr : Row w w.heap.size Ar (prs r.res)) (h1 : r.mat.length = nm) (h2 : nm ≤ cm) (h3 : cm ≤ maxLen) (h4 : r.res.length = nr) (h5 : nr ≤ cr) (h6 : cr ≤ maxLen) :
    RuleAt w w.heap.size [.slice none 0 0, .slice Am nm cm, .slice none 0 0, .slice Ar nr cr] r := by
  subst h1 h4
  refine ⟨none, 0, Am, cm, none, 0, Ar, cr, by simp [hb, ha], ⟨by rw [hb]; exact SetsAt.nil, hm, by rw [ha]; exact SetsAt.nil, hr⟩, ?_, ⟨h2, h3⟩, ?_, ⟨h5, h6⟩⟩
  · simp [hb]
  · simp [ha]
theorem rules_blk1 {v0 v1 v2 v3 : Value} {r : TR} (hb : Blk w b t #[v0, v1, v2, v3]) (h : RuleAt w w.heap.size [v0, v1, v2, v3] r) : RulesAt w w.heap.size (some ⟨b, 0, none⟩) [r] := by
  refine ⟨[[v0, v1, v2, v3]], rfl, by simp, hb.row rfl, fun k s hs => ?_⟩
  have hk : k = 0 := by
    have := (List.getElem?_eq_some_iff.1 hs).1
    simpa using this
  subst hk
  simp at hs
  subst hs
  exact ⟨_, rfl, h⟩
theorem rules_blk2 {v0 v1 v2 v3 u0 u1 u2 u3 : Value} {r s : TR} (hb : Blk w b t #[v0, v1, v2, v3, u0, u1, u2, u3]) (h : RuleAt w w.heap.size [v0, v1, v2, v3] r) (g : RuleAt w w.heap.size [u0, u1, u2, u3] s) : RulesAt w w.heap.size (some ⟨b, 0, none⟩) [r, s] := by
  refine ⟨[[v0, v1, v2, v3], [u0, u1, u2, u3]], rfl, by simp, hb.row rfl, fun k x hs => ?_⟩
  have hk : k < 2 := by
    have := (List.getElem?_eq_some_iff.1 hs).1
    simpa using this
  rcases Nat.lt_or_ge k 1 with hk1 | hk1
  · obtain rfl : k = 0 := by omega
    simp at hs
    subst hs
    exact ⟨_, rfl, h⟩
  · obtain rfl : k = 1 := by omega
    simp at hs
    subst hs
    exact ⟨_, rfl, g⟩
end
end Go.UtYtjohoohdjlajcaa
