/-
  cpset.cursor and the function that it returns: walks.
-/
import Derived.Test.YtledbiabdiijhaaProg
import Derived.Test.YtledbiabdiijhaaBase
import Derived.Test.YtledbiabdiijhaaApp
import Derived.Test.YtledbiabdiijhaaCs6
import Derived.Test.YtledbiabdiijhaaTree
import Derived.Laws.OwnMore
import Derived.WalkKit
import Derived.Deep.QuietTactic
import Derived.BigQuiet
import Derived.KernelRfl
import Derived.Outline
import Derived.IntWalk
namespace Go.Proofs.Ytledbiabdiijhaa
open Go.RowKit Go.UtYtledbiabdiijhaa
theorem can_at {lo : Int} {l : List Rg} (h : CanFrom lo l) {k : Nat} {s : Rg} (hk : l[k]? = some s) : lo ≤ s.1 ∧ s.1 ≤ s.2 ∧ s.2 ≤ 1114111 := by
  induction l generalizing lo k with
  | nil => simp at hk
  | cons a l ih =>
    obtain ⟨h1, h2, h3, h4⟩ := h
    cases k with
    | zero => simp at hk; subst hk; exact ⟨h1, h2, h3⟩
    | succ k =>
      have := ih h4 (k := k) (by simpa using hk)
      exact ⟨by omega, this.2⟩
theorem can_lt {lo : Int} {l : List Rg} (h : CanFrom lo l) {i k : Nat} {a b : Rg} (hik : i < k) (hi : l[i]? = some a) (hk : l[k]? = some b) : a.2 + 2 ≤ b.1 := by
  induction l generalizing lo i k with
  | nil => simp at hk
  | cons c l ih =>
    obtain ⟨h1, h2, h3, h4⟩ := h
    cases k with
    | zero => omega
    | succ k =>
      simp at hk
      cases i with
      | zero =>
        simp at hi
        subst hi
        exact (can_at h4 hk).1
      | succ i =>
        simp at hi
        exact ih h4 (by omega) hi hk
def CurOut (r : List Rg) (x : Int) (b : Bool) (h : Int) : Prop := decide (hasP r x) = b ∧ x ≤ h ∧ h ≤ 1114111 ∧ ∀ y, x ≤ y → y ≤ h → (hasP r y ↔ hasP r x)
theorem mem_at {r : List Rg} {y : Int} : memR r y ↔ ∃ (i : Nat) (a : Rg), r[i]? = some a ∧ a.1 ≤ y ∧ y ≤ a.2 := by
  constructor
  · rintro ⟨a, ha, h⟩
    obtain ⟨i, hi, e⟩ := List.getElem_of_mem ha
    exact ⟨i, a, e ▸ List.getElem?_eq_getElem hi, h⟩
  · rintro ⟨i, a, ha, h⟩
    exact ⟨a, List.mem_of_getElem? ha, h⟩
theorem cur_end {r : List Rg} {x : Int} (hx : 0 ≤ x ∧ x ≤ 1114111) (h : ∀ (i : Nat) (a : Rg), i < r.length → r[i]? = some a → a.2 < x) : CurOut r x false 1114111 := by
  have hn : ∀ y, x ≤ y → ¬ hasP r y := by
    rintro y hy ⟨-, hm⟩
    obtain ⟨i, a, ha, h1, h2⟩ := mem_at.1 hm
    have := h i a (List.getElem?_eq_some_iff.1 ha).1 ha
    omega
  exact ⟨decide_eq_false (hn x (Int.le_refl _)), hx.2, Int.le_refl _, fun y hy _ => ⟨fun h => absurd h (hn y hy), fun h => absurd h (hn x (Int.le_refl _))⟩⟩
theorem cur_off {r : List Rg} {x : Int} {k : Nat} {s : Rg} (hc : Cnn r) (_hx : 0 ≤ x ∧ x ≤ 1114111) (hk : r[k]? = some s) (h : ∀ (i : Nat) (a : Rg), i < k → r[i]? = some a → a.2 < x) (h1 : x < s.1) : CurOut r x false (s.1 - 1) := by
  have hs := can_at hc hk
  have hn : ∀ y, x ≤ y → y ≤ s.1 - 1 → ¬ hasP r y := by
    rintro y hy hy' ⟨-, hm⟩
    obtain ⟨i, a, ha, g1, g2⟩ := mem_at.1 hm
    rcases Nat.lt_trichotomy i k with g | rfl | g
    · have := h i a g ha
      omega
    · rw [hk] at ha
      cases ha
      omega
    · have := can_lt hc g hk ha
      omega
  exact ⟨decide_eq_false (hn x (Int.le_refl _) (by omega)), by omega, by omega, fun y hy hy' => ⟨fun h => absurd h (hn y hy hy'), fun h => absurd h (hn x (Int.le_refl _) (by omega))⟩⟩
theorem cur_on {r : List Rg} {x : Int} {k : Nat} {s : Rg} (hc : Cnn r) (_hx : 0 ≤ x ∧ x ≤ 1114111) (hk : r[k]? = some s) (h1 : ¬ x < s.1) (h2 : ¬ s.2 < x) : CurOut r x true s.2 := by
  have hs := can_at hc hk
  have hy : ∀ y, x ≤ y → y ≤ s.2 → hasP r y := fun y hy hy' => ⟨⟨by omega, by omega⟩, s, List.mem_of_getElem? hk, by omega, by omega⟩
  exact ⟨decide_eq_true (hy x (Int.le_refl _) (by omega)), by omega, hs.2.2, fun y g g' => ⟨fun _ => hy x (Int.le_refl _) (by omega), fun _ => hy y g g'⟩⟩
def idxAt (w : World) (g : Nat) : Nat := match w.cell? ⟨g, 0, none⟩ with | some v => (intOf v).toNat | none => 0
theorem grown_cell {w w' : World} {g : Nat} (h : w.grownBy w' (some g)) {p : Addr} (hp : p.block < w.heap.size) (hg : p.block ≠ g) : w'.cell? p = w.cell? p := by
  have e := h.block p.block hp (fun e => hg (Option.some.inj e))
  unfold World.cell?
  rw [e]
theorem grown_row {w w' : World} {g B : Nat} {A : Option Addr} {vs : List Value} (h : w.grownBy w' (some g)) (hr : Row w B A vs) (hB : B ≤ g) (hs : B ≤ w.heap.size) : Row w' B A vs :=
  hr.keep fun p hp => grown_cell h (by omega) (by omega)
theorem grown_refl (w : World) (row : Option Nat) : w.grownBy w row := ⟨rfl, rfl, rfl, Nat.le_refl _, fun _ _ _ => rfl⟩
theorem grown_set {w w' : World} {g : Nat} (h : w.grownBy w' (some g)) (i : Nat) (u : Value) : w.grownBy (w'.setCell ⟨g, i, none⟩ u) (some g) :=
  ⟨h.os, h.tape, h.output, by simpa using h.size, fun k hk hg => (Below.heap_setCell w' ⟨g, i, none⟩ u k (fun e => hg (by rw [e]))).trans (h.block k hk hg)⟩
theorem grown_drewN {w w' : World} {row : Option Nat} (h : w.grownBy w' row) (n : Nat) : w.grownBy (w'.drewN n) row := ⟨h.os, h.tape, h.output, h.size, h.block⟩
/-- What a cursor's function leaves: the answer at x, and the index from which the next call looks. -/
def CurPost (gi : Nat) (r : List Rg) (x : Int) (w : World) (e : Ending) (w' : World) : Prop :=
  ∃ (b : Bool) (h : Int) (k : Nat), e = .returned (.tuple #[.bool b, .int .i64 h]) ∧ CurOut r x b h ∧ k ≤ r.length ∧ (∀ (i : Nat) (a : Rg), i < k → r[i]? = some a → a.2 < x) ∧ Blk w' gi 3 #[.int .i64 (k : Int)] ∧ w.grownBy w' (some gi)
theorem run_field_set (w : World) (v : Value) : (Instr.field 38 (.agg #[v]) 0).run Try.prog w = .ok v w := by
  have h1 := Try.underlying38
  have h2 := Try.isAgg36
  simp [Instr.field, run_underlying h1, part, h2, asAgg, go_sem]
/-- A cursor in memory: its index lies in block gi, its ranges (the valid set r) in block gl; both blocks are new (at or above N). -/
structure CurAt (w : World) (N gi gl : Nat) (r : List Rg) (j : Nat) : Prop where
  new1 : N ≤ gi
  new2 : N ≤ gl
  lt : gl < gi
  idx : Blk w gi 3 #[.int .i64 (j : Int)]
  rows : ∃ A cl, Blk w gl 36 #[.slice A r.length cl] ∧ Row w gl A (rgs r)
  can : Cnn r
  le : j ≤ r.length
theorem CanFrom.len {lo : Int} {l : List Rg} (h : CanFrom lo l) (h0 : 0 ≤ lo) : (l.length : Int) ≤ max 0 (1114112 - lo) := by
  induction l generalizing lo with
  | nil => simp; omega
  | cons a l ih =>
    obtain ⟨h1, h2, h3, h4⟩ := h
    have := ih h4 (by omega)
    simp only [List.length_cons]
    omega
theorem can_len {l : List Rg} (h : Cnn l) : l.length ≤ 1114112 := by
  have := CanFrom.len h (Int.le_refl 0)
  omega
end Go.Proofs.Ytledbiabdiijhaa
