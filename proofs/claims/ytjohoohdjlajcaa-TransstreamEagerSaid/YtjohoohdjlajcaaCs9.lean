/-
  cpset.Or, And, Minus, Not, Subset: walks.
-/
import Derived.Test.YtjohoohdjlajcaaProg
import Derived.Test.YtjohoohdjlajcaaBase
import Derived.Test.YtjohoohdjlajcaaApp
import Derived.Test.YtjohoohdjlajcaaCs8
import Derived.Laws.OwnMore
import Derived.WalkKit
import Derived.KernelRfl
import Derived.Outline
import Derived.IntWalk
namespace Go.Proofs.Ytjohoohdjlajcaa
open Go.RowKit Go.UtYtjohoohdjlajcaa
theorem RetSet.iff {w : World} {P Q : Int → Prop} {e : Ending} {w' : World} (h : RetSet w P e w') (hq : ∀ x, P x ↔ Q x) : RetSet w Q e w' := by
  obtain ⟨A, c, r, h1, h2, h3, h4, h5⟩ := h
  exact ⟨A, c, r, h1, h2, fun x => (h3 x).trans (hq x), h4, h5⟩
/-- The end of each: the result was stored into the call's own block g of one cell. -/
theorem retSet_store {w W w' : World} {P : Int → Prop} {e : Ending} {g : Nat} {t : TypeId} {u : Value} (hb : Below w.heap.size w W) (hX : Blk W g t #[u]) (hg : w.heap.size ≤ g) (h : RetSet W P e w') :
    ∃ (A : Option Addr) (c : Nat) (r : List Rg), e = .returned (.agg #[.slice A r.length c]) ∧ Blk w' g t #[u] ∧ Hid (Blk (w'.setCell ⟨g, 0, none⟩ (.slice A r.length c)) g t #[.slice A r.length c]) ∧ Hid (RetSet w P (.returned (.agg #[.slice A r.length c])) (w'.setCell ⟨g, 0, none⟩ (.slice A r.length c))) := by
  obtain ⟨A, c, r, rfl, h2, h3, h4, h5⟩ := h
  have X5 := hX.after h5
  refine ⟨A, c, r, rfl, X5, ?_, ⟨A, c, r, rfl, h2, h3, ?_, (hb.trans (h5.mono hb.size)).setCell (p := ⟨g, 0, none⟩) hg _⟩⟩
  · have := X5.set_ 0 (.slice A r.length c)
    show Blk _ _ _ _
    simpa using this
  · have := row_one X5 (grown_set (grown_refl w' (some g)) 0 (.slice A r.length c)) h4 (Nat.le_refl _)
    simpa using this
theorem can_empty {r : List Rg} (h : Cnn r) : r.length = 0 ↔ ∀ x, ¬ hasP r x := by
  constructor
  · intro h0 x hx
    obtain rfl : r = [] := List.eq_nil_of_length_eq_zero h0
    exact memR_nil hx.2
  · intro hx
    cases r with
    | nil => rfl
    | cons s r => exact absurd ((can_has h s.1).2 (memR_cons.2 (.inl ⟨Int.le_refl _, h.2.1⟩))) (hx s.1)
/-- each element of a is in b -/
def subP (la lb : List Rg) : Prop := ∀ x, hasP la x → hasP lb x
end Go.Proofs.Ytjohoohdjlajcaa
