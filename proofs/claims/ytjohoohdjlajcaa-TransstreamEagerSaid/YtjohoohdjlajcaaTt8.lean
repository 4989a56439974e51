/-
  transduce.Apply.
  transduce.Trace.
-/
import Derived.Test.YtjohoohdjlajcaaTt6
import Derived.Test.YtjohoohdjlajcaaApp
namespace Go.UtYtjohoohdjlajcaa
open Go.RowKit
/-- what a piece writes -/
def pieceW (text : List Int) (p : Nat) (q : Int × Int) : Int := if q.2 = 0 then q.1 else text.getD (p + q.2.toNat - 1) 0
theorem writS_neg (rules : List TR) {text : List Int} {p : Nat} {x : Int} (h : text[p]? = some x) : writS rules text p (-1) = [x] := by
  unfold writS
  rw [if_pos (by omega), List.getD_eq_getElem?_getD, h]
  rfl
theorem writS_rule {rules : List TR} {text : List Int} {p k : Nat} {r : TR} (h : rules[k]? = some r) : writS rules text p (k : Int) = r.res.map (pieceW text p) := by
  unfold writS
  rw [if_neg (by omega), Int.toNat_natCast, h]
  rfl
theorem pieceW_code {text : List Int} {p : Nat} {x : Int} : pieceW text p (x, 0) = x := by simp [pieceW]
theorem pieceW_copy {text : List Int} {p : Nat} {x y z : Int} (h : y ≠ 0) (hz : text[p + y.toNat - 1]? = some z) : pieceW text p (x, y) = z := by
  unfold pieceW
  rw [if_neg h, List.getD_eq_getElem?_getD, hz]
  rfl
theorem map_take {α β : Type} {f : α → β} {l : List α} {k : Nat} {x : α} (h : l[k]? = some x) : (l.take (k + 1)).map f = (l.take k).map f ++ [f x] := by
  obtain ⟨hk, e⟩ := List.getElem?_eq_some_iff.1 h
  rw [List.take_succ_eq_append_getElem hk, e]
  simp
end Go.UtYtjohoohdjlajcaa
namespace Go.Proofs.Ytjohoohdjlajcaa
open Go.RowKit Go.UtYtjohoohdjlajcaa
end Go.Proofs.Ytjohoohdjlajcaa
namespace Go.UtYtjohoohdjlajcaa
open Go.RowKit
/-- triples of integers, cell by cell -/
def tr3 (l : List (Int × Int × Int)) : List Value := l.flatMap fun r => [.int .i64 r.1, .int .i64 r.2.1, .int .i64 r.2.2]
theorem tr3_len (l : List (Int × Int × Int)) : (tr3 l).length = l.length * 3 := by
  induction l with
  | nil => rfl
  | cons r l ih => simp only [tr3, List.flatMap_cons, List.length_append, List.length_cons, List.length_nil] at ih ⊢; omega
theorem tr3_snoc (l : List (Int × Int × Int)) (a b c : Int) : tr3 (l ++ [(a, b, c)]) = tr3 l ++ [.int .i64 a, .int .i64 b, .int .i64 c] := by simp [tr3]
theorem tr3_get {l : List (Int × Int × Int)} {k : Nat} {r : Int × Int × Int} (h : l[k]? = some r) : (tr3 l)[k * 3]? = some (.int .i64 r.1) ∧ (tr3 l)[k * 3 + 1]? = some (.int .i64 r.2.1) ∧ (tr3 l)[k * 3 + 2]? = some (.int .i64 r.2.2) := by
  induction l generalizing k with
  | nil => simp at h
  | cons s l ih =>
    cases k with
    | zero =>
      simp at h
      subst h
      simp [tr3]
    | succ k =>
      simp at h
      obtain ⟨h1, h2, h3⟩ := ih h
      have e : tr3 (s :: l) = .int .i64 s.1 :: .int .i64 s.2.1 :: .int .i64 s.2.2 :: tr3 l := by simp [tr3]
      rw [e, show (k + 1) * 3 = k * 3 + 1 + 1 + 1 by omega]
      exact ⟨h1, h2, h3⟩
theorem at_tr {w : World} {B : Nat} {A : Option Addr} {l : List (Int × Int × Int)} (h : Row w B A (tr3 l)) {k : Nat} (hk : k < l.length) : ∃ b o x y z, A = some ⟨b, o, none⟩ ∧ b < B ∧ Hid (l[k]? = some (x, y, z)) ∧ w.cell? ⟨b, o + k * 3, none⟩ = some (.int .i64 x) ∧ w.cell? ⟨b, o + k * 3 + 1, none⟩ = some (.int .i64 y) ∧ w.cell? ⟨b, o + k * 3 + 2, none⟩ = some (.int .i64 z) := by
  have e : l[k]? = some l[k] := List.getElem?_eq_getElem hk
  obtain ⟨g1, g2, g3⟩ := tr3_get e
  obtain ⟨b, o, hA, hb, hc⟩ := h (fun e => by have := tr3_len l; rw [e] at this; simp at this; omega)
  refine ⟨b, o, l[k].1, l[k].2.1, l[k].2.2, hA, hb, e, hc _ _ g1, ?_, ?_⟩
  · have := hc _ _ g2
    rwa [Nat.add_assoc]
  · have := hc _ _ g3
    rwa [Nat.add_assoc]
/-- The call returns a slice that reads as triples; nothing older has changed. -/
def RetT (w : World) (l : List (Int × Int × Int)) (e : Ending) (w' : World) : Prop :=
  ∃ A c, e = .returned (.slice A l.length c) ∧ l.length ≤ c ∧ c ≤ maxLen ∧ Row w' w'.heap.size A (tr3 l) ∧ Below w.heap.size w w'
end Go.UtYtjohoohdjlajcaa
namespace Go.Proofs.Ytjohoohdjlajcaa
open Go.RowKit Go.UtYtjohoohdjlajcaa
end Go.Proofs.Ytjohoohdjlajcaa
