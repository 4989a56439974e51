/-
  segment.parts as an iterator; slices.Collect of it; segment.Parts.
-/
import Derived.RangeFuncNested
import Derived.RangeFuncBound
import Derived.RangeFuncCalls
import Derived.RangeFuncLeaves
import Derived.Shelf.Abstract
import Derived.Shelf.RegionOpen
import Derived.OwnWalkIn
import Derived.TacticsInMore
import Derived.LoopNIn
import Derived.LoopIn
import Derived.Test.YtkpblieanejmeaaBq4
import Derived.Test.YtkpblieanejmeaaBs0
namespace Go.Proofs.Ytkpblieanejmeaa
open Go.RowKit Go.Shelf Go.UtYtkpblieanejmeaa
attribute [local go_sem] Oper.semAt_some
def rng (l : List (Int × Int)) : List Value := l.flatMap fun s => [.int .i64 s.1, .int .i64 s.2]
theorem rng_len : ∀ l : List (Int × Int), (rng l).length = l.length * 2
  | [] => rfl
  | s :: l => by
    have := rng_len l
    simp [rng] at this ⊢
    omega
theorem rng_snoc (l : List (Int × Int)) (a b : Int) : rng (l ++ [(a, b)]) = rng l ++ [.int .i64 a, .int .i64 b] := by simp [rng]
theorem two_one (a b : Int) : ∀ u ∈ [Value.int .i64 a, .int .i64 b], u.oneCell' = true := by
  intro u hu
  simp at hu
  rcases hu with rfl | rfl <;> rfl
theorem rng_info : (Try.prog.info? 52).map (fun i => (i.zero, i.size, i.bytes)) = some (some (.agg #[.int .i64 0, .int .i64 0]), 2, 16) := by kernel_rfl
/-- The call returns a slice that reads as ranges; nothing older has changed. -/
def RetR (w : World) (l : List (Int × Int)) (e : Ending) (w' : World) : Prop :=
  ∃ A c, e = .returned (.slice A l.length c) ∧ l.length ≤ c ∧ c ≤ maxLen ∧ Row w' w'.heap.size A (rng l) ∧ Below w.heap.size w w'
def encP (x : Int × Int) : Array Value := #[.agg #[.int .i64 x.1, .int .i64 x.2]]
/-- What a round keeps: whatever lay below B. -/
def KpB (B : Nat) (W W' : World) : Prop := W.heap.size ≤ W'.heap.size ∧ ∀ b, b < B → W'.heap[b]? = W.heap[b]?
theorem KpB.trans {B : Nat} {X Y Z : World} (h : KpB B X Y) (k : KpB B Y Z) : KpB B X Z := ⟨Nat.le_trans h.1 k.1, fun b hb => (k.2 b hb).trans (h.2 b hb)⟩
theorem KpB.refl (B : Nat) (X : World) : KpB B X X := ⟨Nat.le_refl _, fun _ _ => rfl⟩
theorem KpB.book {B : Nat} {w : World} (hw : B ≤ w.heap.size) (W : World) (l : Nat) (o o' : Obj) (hl : w.heap.size ≤ l) (_ : W.heap[l]? = some o) (_ : o.isCells = false) (_ : o.isWalk = false) : KpB B W (W.putObj l o') :=
  ⟨(grownBy_putObj' W l o').size, fun b hb => World.putObj_heap_other (by omega)⟩
theorem KpB.below {B : Nat} {W W' : World} (h : Below B W W') : KpB B W W' := ⟨h.size, h.block⟩
theorem KpB.row {B : Nat} {W W' : World} {A : Option Addr} {vs : List Value} (h : KpB B W W') (hr : Row W B A vs) : Row W' B A vs :=
  hr.keep fun p hp => World.cell?_of_block (h.2 p.block hp)
theorem KpB.blk {B g t : Nat} {W W' : World} {cs : Array Value} (h : KpB B W W') (hg : g < B) (hb : Blk W g t cs) : Blk W' g t cs := (h.2 g hg).trans hb
theorem cells_kept' {X Y : World} {B : Nat} {row : Option Nat} {g : Nat} {cs : Array Value} {t : TypeId} {fr : Nat × Nat} (h : X.heap[g]? = some (.cells cs t fr)) (hg : X.grownBy Y row) (hr : ∀ r, row = some r → B ≤ r ∧ ∃ o : Obj, X.heap[r]? = some o ∧ o.isCells = false) : Y.heap[g]? = some (.cells cs t fr) := by
  refine (hg.block g (Array.getElem?_eq_some_iff.1 h).1 (fun e => ?_)).trans h
  obtain ⟨_, o, ho, hc⟩ := hr g e.symm
  rw [h] at ho
  cases ho
  cases hc
theorem ow_putObj {W : World} {base e size n D : Nat} {v : Value} {xs : List Value} {o : Obj} (h : W.ownsRow base e size v n xs) (hD : W.heap[D]? = some o) (hc : o.isCells = false) (o' : Obj) : (W.putObj D o').ownsRow base e size v n xs := by
  refine ⟨h.1, ?_⟩
  rcases h.2 with h' | ⟨g, cap, cur, hv, hb, hh, h'⟩
  · exact .inl h'
  · refine .inr ⟨g, cap, cur, hv, hb, (World.putObj_heap_other (fun e => ?_)).trans hh, h'⟩
    subst e
    rw [hh] at hD
    cases hD
    cases hc
end Go.Proofs.Ytkpblieanejmeaa
