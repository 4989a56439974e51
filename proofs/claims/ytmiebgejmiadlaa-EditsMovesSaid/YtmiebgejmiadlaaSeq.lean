/-
  A region that draws its order, walked in one order: operations that only read may be taken as soon as they are ready; calls come in their own order. What is asked: each call leaves all older memory as it was.
-/
import Derived.OrdersHeld
import Derived.Deep.RegionHeld
import Derived.Below
namespace Go.UtYtmiebgejmiadlaa
open Go.RowKit
/-- The order is one that the region's edges force, but for operations that may be taken first. -/
def schedGo (ops : Array Oper) : List (Nat × Bool) → Array Bool → Bool
  | [], listed => (Region.ready .any ops listed).isEmpty
  | (i, fl) :: rest, listed => (if fl then (Region.ready .any ops listed).contains i && Region.free .any ops listed i else Region.ready .any ops listed == [i]) && schedGo ops rest (listed.setIfInBounds i true)
def schedOk (ops : Array Oper) (L : List (Nat × Bool)) : Bool := Region.noSelect ops && L.length == ops.size && schedGo ops L (Array.replicate ops.size false)
section
variable {P : Program} {ops : Array Oper} {Q : Exit → Act → World → Prop} {W : World}
def wpSeq (P : Program) (ops : Array Oper) (Q : Exit → Act → World → Prop) (W : World) : List (Nat × Bool) → Act → World → Prop
  | [], a, w => Q .normal a w
  | (i, fl) :: rest, a, w => ∃ o, ops[i]? = some o ∧
      ((Region.wanted o (yielded ops a.tmps) = true ∧ fl = true ∧ ∃ v, (∀ w', Below W.heap.size W w' → (execOp a.eval o).run P w' = .ok (.value v) w') ∧ wpSeq P ops Q W rest (a.put o.dst v) w) ∨
       (Region.wanted o (yielded ops a.tmps) = true ∧ fl = false ∧ o.wp P a w (fun a' w' => Below W.heap.size W w' ∧ wpSeq P ops Q W rest a' w') Q) ∨
       (Region.wanted o (yielded ops a.tmps) = false ∧ wpSeq P ops Q W rest (a.put o.dst undef) w))
theorem wpSeq_sound (hs : Region.noSelect ops = true) (hQ : ∀ c a (d : Option Tmp) v w, Q (.panic c) (a.put d v) w → Q (.panic c) a w) : ∀ (L : List (Nat × Bool)) (listed : Array Bool) (a : Act) (w : World),
    schedGo ops L listed = true → Below W.heap.size W w → wpSeq P ops Q W L a w → wpAnyH P .any ops Q (fun w' => Below W.heap.size W w') L.length listed a w
  | [], listed, a, w, hc, _, h => ⟨by simpa [schedGo] using hc, h⟩
  | (i, fl) :: rest, listed, a, w, hc, hb, h => by
    obtain ⟨o, ho, h⟩ := h
    rw [schedGo, Bool.and_eq_true] at hc
    obtain ⟨hc1, hc2⟩ := hc
    have ih := wpSeq_sound hs hQ rest (listed.setIfInBounds i true)
    show wpAnyH P .any ops Q _ (rest.length + 1) listed a w
    cases fl with
    | true =>
      simp only [if_true, Bool.and_eq_true] at hc1
      rcases h with ⟨hw, _, v, hv, h⟩ | ⟨_, hf, _⟩ | ⟨hw, h⟩
      · exact wpAnyH_take ho hs hc1.2 hc1.1 (fun c a w hq => hQ c a _ _ w hq) (.inl ⟨hw, hv⟩) hb (ih _ _ hc2 hb h)
      · cases hf
      · exact wpAnyH_take ho hs hc1.2 hc1.1 (fun c a w hq => hQ c a _ _ w hq) (.inr ⟨hw, rfl⟩) hb (ih _ _ hc2 hb h)
    | false =>
      simp only [Bool.false_eq_true, if_false, beq_iff_eq] at hc1
      refine wpAnyH_all hc1 (by simp) fun j hj => ?_
      obtain rfl : j = i := by simpa using hj
      unfold wpOp
      simp only [ho]
      rcases h with ⟨_, hf, _⟩ | ⟨hw, _, h⟩ | ⟨hw, h⟩
      · cases hf
      · rw [if_pos hw]
        exact .inl (Oper.wp_mono (fun a' w' h' => ⟨h'.1, ih _ _ hc2 h'.1 h'.2⟩) h)
      · rw [if_neg (by rw [hw]; simp)]
        exact ⟨hb, ih _ _ hc2 hb h⟩
/-- THE REGION: in the order L. -/
theorem wp_region_seq {id : Nat} {a : Act} {w : World} (L : List (Nat × Bool)) (hm : P.follows .mixedOrders = true) (hc : schedOk ops L = true)
    (hQ : ∀ c a (d : Option Tmp) v w, Q (.panic c) (a.put d v) w → Q (.panic c) a w) (h : wpSeq P ops Q w.drew L a w.drew) : (Code.region id ops true).wp P Q a w := by
  rw [schedOk, Bool.and_eq_true, Bool.and_eq_true, beq_iff_eq] at hc
  refine wp_region_held (S := fun w' => Below w.drew.heap.size w.drew w') hm ?_
  have := wpSeq_sound (W := w.drew) hc.1.1 hQ L _ a w.drew hc.2 (Below.refl _ _) h
  rw [hc.1.2] at this
  exact this
theorem wpSeq_float {i : Nat} {rest : List (Nat × Bool)} {a : Act} {w : World} {o : Oper} {v : Value} (ho : ops[i]? = some o) (hw : Region.wanted o (yielded ops a.tmps) = true)
    (hv : ∀ w', Below W.heap.size W w' → (execOp a.eval o).run P w' = .ok (.value v) w') (h : wpSeq P ops Q W rest (a.put o.dst v) w) : wpSeq P ops Q W ((i, true) :: rest) a w :=
  ⟨o, ho, .inl ⟨hw, rfl, v, hv, h⟩⟩
theorem wpSeq_call {i : Nat} {rest : List (Nat × Bool)} {a : Act} {w : World} {o : Oper} (ho : ops[i]? = some o) (hw : Region.wanted o (yielded ops a.tmps) = true)
    (h : o.wp P a w (fun a' w' => Below W.heap.size W w' ∧ wpSeq P ops Q W rest a' w') Q) : wpSeq P ops Q W ((i, false) :: rest) a w :=
  ⟨o, ho, .inr (.inl ⟨hw, rfl, h⟩)⟩
theorem wpSeq_skip {i : Nat} {fl : Bool} {rest : List (Nat × Bool)} {a : Act} {w : World} {o : Oper} (ho : ops[i]? = some o) (hw : Region.wanted o (yielded ops a.tmps) = false)
    (h : wpSeq P ops Q W rest (a.put o.dst undef) w) : wpSeq P ops Q W ((i, fl) :: rest) a w :=
  ⟨o, ho, .inr (.inr ⟨hw, h⟩)⟩
/-- A call: what follows is kept behind a letter while the callee's contract is met. -/
theorem wpSeq_callK {i : Nat} {rest : List (Nat × Bool)} {a : Act} {w : World} {o : Oper} (ho : ops[i]? = some o) (hw : Region.wanted o (yielded ops a.tmps) = true)
    (h : ∀ K : Act → World → Prop, Shut (∀ a' w', Below W.heap.size W w' → wpSeq P ops Q W rest a' w' → K a' w') → o.wp P a w K Q) : wpSeq P ops Q W ((i, false) :: rest) a w :=
  wpSeq_call ho hw (h _ (fun _ _ hb hs => ⟨hb, hs⟩))
theorem wpSeq_done {a : Act} {w : World} (h : Q .normal a w) : wpSeq P ops Q W [] a w := h
end
end Go.UtYtmiebgejmiadlaa
