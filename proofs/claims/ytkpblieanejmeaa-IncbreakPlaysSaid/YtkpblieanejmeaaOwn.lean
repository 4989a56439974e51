/-
  Rows of the call's own, over whatever program: what keeps them.
-/
import Derived.Test.YtkpblieanejmeaaBase
import Derived.Laws.OwnMore
namespace Go.UtYtkpblieanejmeaa
open Go.RowKit
section
variable {w w' : World} {base e size n : Nat} {v : Value} {xs : List Value}
theorem ow_keep (h : w.ownsRow base e size v n xs) (hk : ∀ g, base ≤ g → g < w.heap.size → w'.heap[g]? = w.heap[g]?) : w'.ownsRow base e size v n xs := by
  refine ⟨h.1, ?_⟩
  rcases h.2 with h' | ⟨g, cap, cur, hv, hb, hh, h'⟩
  · exact .inl h'
  · exact .inr ⟨g, cap, cur, hv, hb, (hk g hb (Array.getElem?_eq_some_iff.1 hh).1).trans hh, h'⟩
theorem ow_alloc (h : w.ownsRow base e size v n xs) (o : Obj) : (w.alloc o).ownsRow base e size v n xs := ow_keep h fun g _ hg => Below.heap_alloc w o g hg
theorem ow_drewN (h : w.ownsRow base e size v n xs) (k : Nat) : (w.drewN k).ownsRow base e size v n xs := h
theorem ow_drew (h : w.ownsRow base e size v n xs) : w.drew.ownsRow base e size v n xs := h
theorem ow_below (h : w.ownsRow base e size v n xs) (hb : Below w.heap.size w w') : w'.ownsRow base e size v n xs := ow_keep h fun g _ hg => hb.block g hg
theorem ow_set {p : Addr} {u : Value} (h : w.ownsRow base e size v n xs) (hp : p.block < base) : (w.setCell p u).ownsRow base e size v n xs := ow_keep h fun g hg _ => Below.heap_setCell w p u g (by omega)
theorem ow_slice {m : Nat} (h : w.ownsRow base e size v n xs) (hm : m = n) : ∃ A c, v = .slice A m c := by
  obtain ⟨A, c, hv, _⟩ := own_row h
  exact ⟨A, c, by rw [hm]; exact hv⟩
theorem ow_row {A : Option Addr} {c : Nat} (h : w.ownsRow base e size (.slice A n c) n xs) : Row w w.heap.size A xs ∧ n ≤ c ∧ c ≤ maxLen := by
  obtain ⟨A', c', e', h1, h2, hr⟩ := own_row h
  injection e' with e1 e2 e3
  subst e1 e3
  exact ⟨hr, h1, h2⟩
theorem ow_ne {B : Nat} (h : w.ownsRow base e size v n xs) (hB : B < base) : ∀ g, v.ownBlock = some g → g ≠ B := fun g hg e => by have := own_base h g hg; omega
theorem bk_grown {g t : Nat} {cs : Array Value} {row : Option Nat} (h : Blk w g t cs) (hg : w.grownBy w' row) (hr : some g ≠ row) : Blk w' g t cs := (hg.block g h.lt hr).trans h
theorem row_lit (w : World) (t : TypeId) (vs : List Value) : Row (w.alloc (.cells vs.toArray t)) (w.heap.size + 1) (some ⟨w.heap.size, 0, none⟩) vs := by
  have := (Blk.new w t vs.toArray).row (vs := vs) (by simp)
  simpa using this
theorem row_lit_n (w : World) (k : Nat) (t : TypeId) (vs : List Value) : Row ((w.drewN k).alloc (.cells vs.toArray t)) (w.heap.size + 1) (some ⟨w.heap.size, 0, none⟩) vs := row_lit (w.drewN k) t vs
theorem ints_one1 (x : Int) : ∀ u ∈ [Value.int .i64 x], u.oneCell' = true := by simp [Value.oneCell']
theorem ints_snoc (xs : List Int) (x : Int) : ints (xs ++ [x]) = ints xs ++ [.int .i64 x] := by simp [ints]
end
end Go.UtYtkpblieanejmeaa
