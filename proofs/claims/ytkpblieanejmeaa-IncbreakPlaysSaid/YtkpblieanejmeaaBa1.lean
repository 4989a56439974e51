/-
  anywhere.reached, ref31.after, ref31.single: the state that two classes lead to.
  anywhere.reached, ref31.single.
  anywhere.permitted, ref31.usable.
  The last known state: plain; ref31.Start.
-/
import Derived.Test.YtkpblieanejmeaaBq5
namespace Go.UtYtkpblieanejmeaa
def aft (nx : List (List Int)) (s x y : Int) : Int := dl nx (dl nx s x) y
/-- two classes lead to one state, from every state -/
def sngB (nx : List (List Int)) (x y : Int) : Bool := (List.range nx.length).all fun s => decide (aft nx (s : Int) x y = aft nx 0 x y)
theorem sng_all {nx : List (List Int)} {x y : Int} : sngB nx x y = true ↔ ∀ s : Nat, s < nx.length → aft nx (s : Int) x y = aft nx 0 x y := by
  unfold sngB
  rw [List.all_eq_true]
  constructor
  · intro h s hs
    simpa using h s (List.mem_range.2 hs)
  · intro h s hs
    simpa using h s (List.mem_range.1 hs)
end Go.UtYtkpblieanejmeaa
namespace Go.Proofs.Ytkpblieanejmeaa
open Go.RowKit Go.UtYtkpblieanejmeaa
theorem aft_fit {nx mk : List (List Int)} {k a : Nat} (h : soundP nx mk k a) {s x y : Nat} (hs : s < nx.length) (hx : x < k) (hy : y < k) : ∃ d : Nat, dl nx (s : Int) (x : Int) = (d : Int) ∧ d < nx.length ∧ 0 ≤ aft nx s x y ∧ aft nx s x y < (nx.length : Int) := by
  have h1 := dl_fit h (s := (s : Int)) (c := (x : Int)) ⟨by omega, by omega⟩ ⟨by omega, by omega⟩
  have h2 := dl_fit h (s := dl nx (s : Int) (x : Int)) (c := (y : Int)) h1 ⟨by omega, by omega⟩
  exact ⟨(dl nx (s : Int) (x : Int)).toNat, by omega, by omega, h2.1, h2.2⟩
end Go.Proofs.Ytkpblieanejmeaa
namespace Go.Proofs.Ytkpblieanejmeaa
open Go.RowKit Go.UtYtkpblieanejmeaa
theorem blk1 {w : World} {g T : Nat} {a : Value} (h : Blk w g T #[a]) : w.cell? ⟨g, 0, none⟩ = some a ∧ g < w.heap.size := ⟨h.cell 0, h.lt⟩
end Go.Proofs.Ytkpblieanejmeaa
namespace Go.Proofs.Ytkpblieanejmeaa
open Go.RowKit Go.UtYtkpblieanejmeaa
end Go.Proofs.Ytkpblieanejmeaa
namespace Go.UtYtkpblieanejmeaa
/-- the last position up to n that follows a synchronizing pair, and the state there -/
def startN (nx : List (List Int)) (l : List Int) : Nat → Nat × Int
  | n + 2 => if sngB nx (l.getD n 0) (l.getD (n + 1) 0) then (n + 2, aft nx 0 (l.getD n 0) (l.getD (n + 1) 0)) else startN nx l (n + 1)
  | _ => (0, 0)
theorem start_run {nx mk : List (List Int)} {k a : Nat} {l : List Int} (hs : soundP nx mk k a) (hl : ∀ c ∈ l, 0 ≤ c ∧ c < (k : Int)) : ∀ n, n ≤ l.length → (startN nx l n).1 ≤ n ∧ (startN nx l n).2 = runA nx 0 (l.take (startN nx l n).1)
  | 0, _ => ⟨Nat.le_refl _, rfl⟩
  | 1, _ => ⟨by simp [startN], rfl⟩
  | n + 2, h => by
    unfold startN
    by_cases hc : sngB nx (l.getD n 0) (l.getD (n + 1) 0) = true
    · rw [if_pos hc]
      refine ⟨Nat.le_refl _, ?_⟩
      obtain ⟨x, hx⟩ : ∃ x, l[n]? = some x := ⟨_, List.getElem?_eq_getElem (by omega)⟩
      obtain ⟨y, hy⟩ : ∃ x, l[n + 1]? = some x := ⟨_, List.getElem?_eq_getElem (by omega)⟩
      have e1 : l.getD n 0 = x := by rw [List.getD_eq_getElem?_getD, hx]; rfl
      have e2 : l.getD (n + 1) 0 = y := by rw [List.getD_eq_getElem?_getD, hy]; rfl
      rw [e1, e2] at hc ⊢
      obtain ⟨h1, h2⟩ := List.getElem?_eq_some_iff.1 hx
      obtain ⟨h3, h4⟩ := List.getElem?_eq_some_iff.1 hy
      have ht : l.take (n + 2) = l.take n ++ [x] ++ [y] := by
        rw [show n + 2 = n + 1 + 1 by omega, List.take_succ_eq_append_getElem h3, h4, List.take_succ_eq_append_getElem h1, h2]
      rw [ht, runA_snoc, runA_snoc]
      have hf := runA_fit hs (l.take n) 0 ⟨by omega, by have := hs.1.1; omega⟩ (fun c hc => hl c (List.mem_of_mem_take hc))
      obtain ⟨s, hsn⟩ : ∃ s : Nat, runA nx 0 (l.take n) = (s : Int) := ⟨(runA nx 0 (l.take n)).toNat, by omega⟩
      rw [hsn] at hf ⊢
      exact (sng_all.1 hc s (by omega)).symm
    · rw [if_neg hc]
      have := start_run hs hl (n + 1) (by omega)
      exact ⟨by omega, this.2⟩
end Go.UtYtkpblieanejmeaa
