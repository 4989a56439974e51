/-
  Transliteration rules in memory: lists of sets, pieces, rules; over whatever program.
-/
import Derived.Test.YtjohoohdjlajcaaBase
import Derived.Test.YtjohoohdjlajcaaOwn
import Derived.Test.YtjohoohdjlajcaaLsn
import Derived.Test.YtjohoohdjlajcaaTd0
namespace Go.UtYtjohoohdjlajcaa
open Go.RowKit
/-- pairs of integers, cell by cell -/
def prs (l : List (Int × Int)) : List Value := l.flatMap fun r => [.int .i64 r.1, .int .i64 r.2]
theorem prs_len (l : List (Int × Int)) : (prs l).length = l.length * 2 := by
  induction l with
  | nil => rfl
  | cons r l ih => simp only [prs, List.flatMap_cons, List.length_append, List.length_cons, List.length_nil] at ih ⊢; omega
theorem prs_get {l : List (Int × Int)} {k : Nat} {r : Int × Int} (h : l[k]? = some r) : (prs l)[k * 2]? = some (.int .i64 r.1) ∧ (prs l)[k * 2 + 1]? = some (.int .i64 r.2) := by
  induction l generalizing k with
  | nil => simp at h
  | cons s l ih =>
    cases k with
    | zero =>
      simp at h
      subst h
      simp [prs]
    | succ k =>
      simp at h
      obtain ⟨h1, h2⟩ := ih h
      have e : prs (s :: l) = .int .i64 s.1 :: .int .i64 s.2 :: prs l := by simp [prs]
      rw [e, show (k + 1) * 2 = k * 2 + 1 + 1 by omega]
      exact ⟨h1, h2⟩
section
variable {w w' : World} {B B' : Nat} {A : Option Addr}
theorem at_pr {l : List (Int × Int)} (h : Row w B A (prs l)) {k : Nat} (hk : k < l.length) : ∃ b o x y, A = some ⟨b, o, none⟩ ∧ b < B ∧ Hid (l[k]? = some (x, y)) ∧ w.cell? ⟨b, o + k * 2, none⟩ = some (.int .i64 x) ∧ w.cell? ⟨b, o + k * 2 + 1, none⟩ = some (.int .i64 y) := by
  have e : l[k]? = some l[k] := List.getElem?_eq_getElem hk
  obtain ⟨g1, g2⟩ := prs_get e
  obtain ⟨b, o, hA, hb, hc⟩ := h (fun e => by have := prs_len l; rw [e] at this; simp at this; omega)
  refine ⟨b, o, l[k].1, l[k].2, hA, hb, e, hc _ _ g1, ?_⟩
  have := hc _ _ g2
  rwa [Nat.add_assoc]
/-- a list of sets -/
def SetsAt (w : World) (B : Nat) (A : Option Addr) (sets : List (List Rg)) : Prop :=
  ∃ vs : List Value, vs.length = sets.length ∧ Row w B A vs ∧ ∀ (k : Nat) (s : List Rg), sets[k]? = some s → ∃ A' c', vs[k]? = some (.slice A' s.length c') ∧ s.length ≤ c' ∧ c' ≤ maxLen ∧ Row w B A' (prs s)
theorem SetsAt.below {sets : List (List Rg)} (h : SetsAt w B A sets) (hb : Below B w w') : SetsAt w' B A sets := by
  obtain ⟨vs, h1, h2, h3⟩ := h
  refine ⟨vs, h1, h2.below hb, fun k s hs => ?_⟩
  obtain ⟨A', c', g1, g2, g3, g4⟩ := h3 k s hs
  exact ⟨A', c', g1, g2, g3, g4.below hb⟩
theorem SetsAt.more {sets : List (List Rg)} (h : SetsAt w B A sets) (hB : B ≤ B') : SetsAt w B' A sets := by
  obtain ⟨vs, h1, h2, h3⟩ := h
  refine ⟨vs, h1, h2.more hB, fun k s hs => ?_⟩
  obtain ⟨A', c', g1, g2, g3, g4⟩ := h3 k s hs
  exact ⟨A', c', g1, g2, g3, g4.more hB⟩
theorem SetsAt.lt {sets : List (List Rg)} (h : SetsAt w B A sets) : SetsAt w w.heap.size A sets := by
  obtain ⟨vs, h1, h2, h3⟩ := h
  refine ⟨vs, h1, h2.lt, fun k s hs => ?_⟩
  obtain ⟨A', c', g1, g2, g3, g4⟩ := h3 k s hs
  exact ⟨A', c', g1, g2, g3, g4.lt⟩
theorem SetsAt.at_ {sets : List (List Rg)} (h : SetsAt w B A sets) {k : Nat} (hk : k < sets.length) : ∃ b o A' c' s, A = some ⟨b, o, none⟩ ∧ b < B ∧ Hid (sets[k]? = some s) ∧ w.cell? ⟨b, o + k, none⟩ = some (.slice A' s.length c') ∧ s.length ≤ c' ∧ c' ≤ maxLen ∧ Hid (Row w B A' (prs s)) := by
  obtain ⟨vs, h1, h2, h3⟩ := h
  have e : sets[k]? = some sets[k] := List.getElem?_eq_getElem hk
  obtain ⟨A', c', g1, g2, g3, g4⟩ := h3 k _ e
  obtain ⟨b, o, v, hA, hb, hv, hc⟩ := h2.at_ (k := k) (by omega)
  rw [g1] at hv
  cases hv
  exact ⟨b, o, A', c', sets[k], hA, hb, e, hc, g2, g3, g4⟩
theorem SetsAt.nil : SetsAt w B A [] := ⟨[], rfl, Row.nil, fun k s h => by simp at h⟩
/-- the four cells of a rule -/
def RuleAt (w : World) (B : Nat) (vs : List Value) (r : TR) : Prop :=
  ∃ Ab cb Am cm Aa ca Ar cr, vs = [.slice Ab r.bef.length cb, .slice Am r.mat.length cm, .slice Aa r.aft.length ca, .slice Ar r.res.length cr] ∧
    (SetsAt w B Ab r.bef ∧ SetsAt w B Am r.mat ∧ SetsAt w B Aa r.aft ∧ Row w B Ar (prs r.res)) ∧
    (r.bef.length ≤ cb ∧ cb ≤ maxLen) ∧ (r.mat.length ≤ cm ∧ cm ≤ maxLen) ∧ (r.aft.length ≤ ca ∧ ca ≤ maxLen) ∧ (r.res.length ≤ cr ∧ cr ≤ maxLen)
theorem RuleAt.below {vs : List Value} {r : TR} (h : RuleAt w B vs r) (hb : Below B w w') : RuleAt w' B vs r := by
  obtain ⟨Ab, cb, Am, cm, Aa, ca, Ar, cr, h1, ⟨h2, h3, h4, h5⟩, h6⟩ := h
  exact ⟨Ab, cb, Am, cm, Aa, ca, Ar, cr, h1, ⟨h2.below hb, h3.below hb, h4.below hb, h5.below hb⟩, h6⟩
theorem RuleAt.lt {vs : List Value} {r : TR} (h : RuleAt w B vs r) : RuleAt w w.heap.size vs r := by
  obtain ⟨Ab, cb, Am, cm, Aa, ca, Ar, cr, h1, ⟨h2, h3, h4, h5⟩, h6⟩ := h
  exact ⟨Ab, cb, Am, cm, Aa, ca, Ar, cr, h1, ⟨h2.lt, h3.lt, h4.lt, h5.lt⟩, h6⟩
theorem RuleAt.more {vs : List Value} {r : TR} (h : RuleAt w B vs r) (hB : B ≤ B') : RuleAt w B' vs r := by
  obtain ⟨Ab, cb, Am, cm, Aa, ca, Ar, cr, h1, ⟨h2, h3, h4, h5⟩, h6⟩ := h
  exact ⟨Ab, cb, Am, cm, Aa, ca, Ar, cr, h1, ⟨h2.more hB, h3.more hB, h4.more hB, h5.more hB⟩, h6⟩
/-- a list of rules -/
def RulesAt (w : World) (B : Nat) (A : Option Addr) (rules : List TR) : Prop :=
  ∃ vss : List (List Value), vss.length = rules.length ∧ (∀ cs ∈ vss, cs.length = 4) ∧ Row w B A vss.flatten ∧ ∀ (k : Nat) (r : TR), rules[k]? = some r → ∃ cs, vss[k]? = some cs ∧ RuleAt w B cs r
theorem RulesAt.below {rules : List TR} (h : RulesAt w B A rules) (hb : Below B w w') : RulesAt w' B A rules := by
  obtain ⟨vss, h1, h2, h3, h4⟩ := h
  refine ⟨vss, h1, h2, h3.below hb, fun k r hr => ?_⟩
  obtain ⟨cs, g1, g2⟩ := h4 k r hr
  exact ⟨cs, g1, g2.below hb⟩
theorem RulesAt.lt {rules : List TR} (h : RulesAt w B A rules) : RulesAt w w.heap.size A rules := by
  obtain ⟨vss, h1, h2, h3, h4⟩ := h
  refine ⟨vss, h1, h2, h3.lt, fun k r hr => ?_⟩
  obtain ⟨cs, g1, g2⟩ := h4 k r hr
  exact ⟨cs, g1, g2.lt⟩
theorem RulesAt.more {rules : List TR} (h : RulesAt w B A rules) (hB : B ≤ B') : RulesAt w B' A rules := by
  obtain ⟨vss, h1, h2, h3, h4⟩ := h
  refine ⟨vss, h1, h2, h3.more hB, fun k r hr => ?_⟩
  obtain ⟨cs, g1, g2⟩ := h4 k r hr
  exact ⟨cs, g1, g2.more hB⟩
theorem RulesAt.nil : RulesAt w B A [] := ⟨[], rfl, by simp, Row.nil, fun k r h => by simp at h⟩
theorem flat4 : ∀ {vss : List (List Value)} {k j : Nat} {cs : List Value} {v : Value}, (∀ cs ∈ vss, cs.length = 4) → vss[k]? = some cs → cs[j]? = some v → vss.flatten[k * 4 + j]? = some v
  | [], k, j, cs, v, _, h, _ => by simp at h
  | c :: vss, 0, j, cs, v, hl, h, hj => by
    simp at h
    subst h
    rw [List.flatten_cons, Nat.zero_mul, Nat.zero_add, List.getElem?_append_left (List.getElem?_eq_some_iff.1 hj).1]
    exact hj
  | c :: vss, k + 1, j, cs, v, hl, h, hj => by
    have hc := hl c (by simp)
    rw [List.flatten_cons, List.getElem?_append_right (by omega), hc, show (k + 1) * 4 + j - 4 = k * 4 + j by omega]
    exact flat4 (fun c hc => hl c (by simp [hc])) (by simpa using h) hj
theorem RulesAt.at_ {rules : List TR} (h : RulesAt w B A rules) {k : Nat} (hk : k < rules.length) : ∃ b o v0 v1 v2 v3 r, A = some ⟨b, o, none⟩ ∧ b < B ∧ Hid (rules[k]? = some r) ∧ Hid (RuleAt w B [v0, v1, v2, v3] r) ∧
    w.cell? ⟨b, o + k * 4, none⟩ = some v0 ∧ w.cell? ⟨b, o + k * 4 + 1, none⟩ = some v1 ∧ w.cell? ⟨b, o + k * 4 + 2, none⟩ = some v2 ∧ w.cell? ⟨b, o + k * 4 + 3, none⟩ = some v3 := by
  obtain ⟨vss, h1, h2, h3, h4⟩ := h
  have e : rules[k]? = some rules[k] := List.getElem?_eq_getElem hk
  obtain ⟨cs, g1, g2⟩ := h4 k _ e
  have hl := h2 cs (List.mem_of_getElem? g1)
  match cs, hl with
  | [v0, v1, v2, v3], _ =>
    have f0 := flat4 h2 g1 (j := 0) rfl
    have f1 := flat4 h2 g1 (j := 1) rfl
    have f2 := flat4 h2 g1 (j := 2) rfl
    have f3 := flat4 h2 g1 (j := 3) rfl
    obtain ⟨b, o, hA, hb, hc⟩ := h3 (fun e => by rw [e] at f0; simp at f0)
    refine ⟨b, o, v0, v1, v2, v3, rules[k], hA, hb, e, g2, hc _ _ f0, ?_, ?_, ?_⟩
    · have := hc _ _ f1; rwa [Nat.add_assoc]
    · have := hc _ _ f2; rwa [Nat.add_assoc]
    · have := hc _ _ f3; rwa [Nat.add_assoc]
end
end Go.UtYtjohoohdjlajcaa
