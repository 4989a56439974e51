/-
  append onto a slice without spare capacity, whatever it is and whatever is appended: the new slice reads as both rows; nothing older has changed.
-/
import Derived.Test.YtkpblieanejmeaaBase
import Derived.ArgAppend
namespace Go.UtYtkpblieanejmeaa
open Go.RowKit
section
variable {P : Program} (w : World)
theorem run_append_zero (t ty e : TypeId) (i : TypeInfo) (ht : P.underlying t = some (.slice e)) (hi : P.info? e = some i) (A A2 : Option Addr) (n c c2 : Nat) (hn : n ≤ c) (hA : A = none → n = 0 ∧ c = 0) :
    (Builtin.append_ #[t, t] ty #[.slice A n c, .slice A2 0 c2]).run P w = .ok (.slice A n c) w := by
  cases A with
  | none =>
    obtain ⟨rfl, rfl⟩ := hA rfl
    cases A2 <;> simp [Builtin.append_, run_underlying ht, sizeOf, typeInfo, hi, Builtin.lenOf, Builtin.firstCells, loadCells, loadCellsFrom]
  | some a =>
    cases A2 <;> simp [Builtin.append_, run_underlying ht, sizeOf, typeInfo, hi, Builtin.lenOf, Builtin.firstCells, hn, storeCells, loadCells, loadCellsFrom]
theorem row_at {B : Nat} {A : Option Addr} {vs : List Value} (hr : Row w B A vs) : ∀ b, A = some b → ∀ j u, vs[j]? = some u → w.cell? (b.add j) = some u := by
  intro ad h j u hu
  obtain ⟨b, o, h', _, hc⟩ := hr (fun e => by subst e; simp at hu)
  rw [h] at h'
  injection h' with h'
  subst h'
  have := hc j u hu
  unfold Addr.add
  by_cases hj : j = 0
  · subst hj; simpa using this
  · simpa [hj] using this
/-- append onto a slice whose capacity is its length -/
theorem run_append_full (t ty e : TypeId) (i : TypeInfo) (z : Value) (size bytes : Nat) (ht : P.underlying t = some (.slice e)) (hi : P.info? e = some i) (hz : i.zero = some z)
    (hsize : i.size = size) (hby : i.bytes = bytes) (hzs : z.cells.size = size) (hsz : 0 < size)
    (B : Nat) (A : Option Addr) (n : Nat) (xs : List Value) (hl : xs.length = n * size) (hr : Row w B A xs) (hA : A = none → n = 0)
    (B2 : Nat) (A2 : Option Addr) (m c2 : Nat) (news : List Value) (hl2 : news.length = m * size) (hr2 : Row w B2 A2 news) (h1 : ∀ u ∈ news, u.oneCell' = true)
    (h63 : n + m ≤ maxLen) (hbytes : (n + m) * bytes ≤ 140737488355328) :
    ∃ A' c' w', (Builtin.append_ #[t, t] ty #[.slice A n n, .slice A2 m c2]).run P w = .ok (.slice A' (n + m) c') w' ∧ n + m ≤ c' ∧ c' ≤ maxLen ∧ Row w' w'.heap.size A' (xs ++ news) ∧ Below w.heap.size w w' ∧ (A' = none → n + m = 0) := by
  rcases Nat.eq_zero_or_pos m with rfl | hm
  · refine ⟨A, n, w, ?_, by omega, by omega, ?_, Below.refl _ _, fun h => by have := hA h; omega⟩
    · exact run_append_zero w t ty e i ht hi A A2 n n c2 (Nat.le_refl _) (fun h => ⟨hA h, hA h⟩)
    · have : news = [] := List.eq_nil_of_length_eq_zero (by simpa using hl2)
      subst this
      simpa using hr.lt
  · cases A2 with
    | none =>
      have : news = [] := Classical.byContradiction fun h => by obtain ⟨_, _, h', _⟩ := hr2 h; cases h'
      subst this
      have h0 : m * size = 0 := by simpa using hl2.symm
      rcases Nat.mul_eq_zero.1 h0 with h | h <;> omega
    | some ad =>
      cases A with
      | none =>
        obtain rfl := hA rfl
        have hx : xs = [] := List.eq_nil_of_length_eq_zero (by simpa using hl)
        subst hx
        obtain ⟨v', w', hrun, h2, h3, h4⟩ := run_append_row (P := P) w w.heap.size t ty e i z size bytes ht hi hz hsize hby hzs hsz (.slice none 0 0) 0 [] (own_nil w) B2 (some ad) m c2 news hl2 hr2 h1 h63 hbytes (Nat.le_refl _)
        obtain ⟨A', c', rfl, g1, g2, g3⟩ := own_row h2
        refine ⟨A', c', w', hrun, g1, g2, g3, (Below.refl _ _).grown h3 (Nat.le_refl _) (by simp [Value.ownBlock]), fun h => ?_⟩
        subst h
        have hne : ([] ++ news) ≠ [] := by
          intro h
          have : news.length = 0 := by simpa using congrArg List.length h
          rw [hl2] at this
          rcases Nat.mul_eq_zero.1 this with h | h <;> omega
        obtain ⟨_, _, h', _⟩ := g3 hne
        cases h'
      | some b =>
        obtain ⟨v', w', hrun, h2, h3⟩ := run_append_arg_grows (P := P) w t ty e i z size bytes ht hi hz hsize hby hzs hsz b n n xs hl (row_at w hr b rfl) ad m c2 news hl2 (row_at w hr2 ad rfl) (by omega) h63 hbytes
        obtain ⟨A', c', rfl, g1, g2, g3⟩ := own_row h2
        refine ⟨A', c', w', hrun, g1, g2, g3, (Below.refl _ _).grown h3 (Nat.le_refl _) (by simp), fun h => ?_⟩
        subst h
        have hne : (xs ++ news) ≠ [] := by
          intro h
          have : news.length = 0 := by
            have := congrArg List.length h
            simp at this
            exact congrArg List.length this.2
          rw [hl2] at this
          rcases Nat.mul_eq_zero.1 this with h | h <;> omega
        obtain ⟨_, _, h', _⟩ := g3 hne
        cases h'
theorem wp_append_full {o : Oper} {a : Act} {K : Act → World → Prop} {Q : Exit → Act → World → Prop} (s x : Operand) (t : TypeId)
    (ho : o.op = .call { callee := .builtin .append, args := #[s, x], argTypes := #[t, t] })
    (e : TypeId) (i : TypeInfo) (z : Value) (size bytes : Nat) (ht : P.underlying t = some (.slice e)) (hi : P.info? e = some i) (hz : i.zero = some z)
    (hsize : i.size = size) (hby : i.bytes = bytes) (hzs : z.cells.size = size) (hsz : 0 < size)
    (B : Nat) (A : Option Addr) (n : Nat) (xs : List Value) (hs : a.eval s = .slice A n n) (hl : xs.length = n * size) (hr : Row w B A xs) (hA : A = none → n = 0)
    (B2 : Nat) (A2 : Option Addr) (m c2 : Nat) (news : List Value) (hx : a.eval x = .slice A2 m c2) (hl2 : news.length = m * size) (hr2 : Row w B2 A2 news) (h1 : ∀ u ∈ news, u.oneCell' = true)
    (h63 : n + m ≤ maxLen) (hbytes : (n + m) * bytes ≤ 140737488355328)
    (h : ∀ A' c' w', n + m ≤ c' → c' ≤ maxLen → Row w' w'.heap.size A' (xs ++ news) → Below w.heap.size w w' → (A' = none → n + m = 0) → K (a.put o.dst (.slice A' (n + m) c')) w') : o.wp P a w K Q := by
  obtain ⟨A', c', w', hrun, h2, h3, h4, h5, h6⟩ := run_append_full (P := P) w t o.type e i z size bytes ht hi hz hsize hby hzs hsz B A n xs hl hr hA B2 A2 m c2 news hl2 hr2 h1 h63 hbytes
  unfold Oper.wp execOp
  simp only [ho, resolve, invoke, builtin, Sem.run_bind, Sem.run_pure, Result.andThen_ok, List.map_toArray, List.map_cons, List.map_nil, hs, hx, hrun]
  exact h A' c' w' h2 h3 h4 h5 h6
theorem wpList_append_full {ops : Array Oper} {rest : List Oper} {o : Oper} {a : Act} {Q : Exit → Act → World → Prop} (hgd : o.guard = none) (s x : Operand) (t : TypeId)
    (ho : o.op = .call { callee := .builtin .append, args := #[s, x], argTypes := #[t, t] })
    (e : TypeId) (i : TypeInfo) (z : Value) (size bytes : Nat) (ht : P.underlying t = some (.slice e)) (hi : P.info? e = some i) (hz : i.zero = some z)
    (hsize : i.size = size) (hby : i.bytes = bytes) (hzs : z.cells.size = size) (hsz : 0 < size)
    (B : Nat) (A : Option Addr) (n : Nat) (xs : List Value) (hs : a.eval s = .slice A n n) (hl : xs.length = n * size) (hr : Row w B A xs) (hA : A = none → n = 0)
    (B2 : Nat) (A2 : Option Addr) (m c2 : Nat) (news : List Value) (hx : a.eval x = .slice A2 m c2) (hl2 : news.length = m * size) (hr2 : Row w B2 A2 news) (h1 : ∀ u ∈ news, u.oneCell' = true)
    (h63 : n + m ≤ maxLen) (hbytes : (n + m) * bytes ≤ 140737488355328)
    (h : ∀ A' c' w', n + m ≤ c' → c' ≤ maxLen → Row w' w'.heap.size A' (xs ++ news) → Below w.heap.size w w' → (A' = none → n + m = 0) → wpList P ops Q rest (a.put o.dst (.slice A' (n + m) c')) w') : wpList P ops Q (o :: rest) a w :=
  wpList_plain hgd fun _ hK => wp_append_full w s x t ho e i z size bytes ht hi hz hsize hby hzs hsz B A n xs hs hl hr hA B2 A2 m c2 news hx hl2 hr2 h1 h63 hbytes fun A' c' w' h2 h3 h4 h5 h6 => hK _ _ (h A' c' w' h2 h3 h4 h5 h6)
end
/-- The call returns a slice that reads as xs; nothing older has changed. -/
def RetI (w : World) (xs : List Int) (e : Ending) (w' : World) : Prop :=
  ∃ A c, e = .returned (.slice A xs.length c) ∧ xs.length ≤ c ∧ c ≤ maxLen ∧ Row w' w'.heap.size A (ints xs) ∧ Below w.heap.size w w'
theorem row_none {w : World} {B : Nat} {A : Option Addr} {xs : List Int} (h : Row w B A (ints xs)) : A = none → xs.length = 0 := fun hA => by
  rcases Nat.eq_zero_or_pos xs.length with h0 | h0
  · exact h0
  · obtain ⟨_, _, h', _⟩ := h (fun e => by
      have := congrArg List.length e
      rw [ints_len] at this
      simp at this
      subst this
      simp at h0)
    rw [hA] at h'
    cases h'
end Go.UtYtkpblieanejmeaa
