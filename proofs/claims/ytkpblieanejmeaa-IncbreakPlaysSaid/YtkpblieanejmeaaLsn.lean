/-
  A slice whose elements take several cells, as an argument or a field, opened element by element; over whatever program.
-/
import Derived.Test.YtkpblieanejmeaaBase
import Derived.OpenShut
import Derived.ChangeSame
import Derived.Deep.Slices
import Derived.Lib.SmallJoins
namespace Go.UtYtkpblieanejmeaa
open Go.RowKit Go.ChangeShapes Go.WideShapes Go.Deep
theorem flat_get {sz : Nat} (hsz : 0 < sz) : ∀ {vss : List (List Value)}, (∀ cs ∈ vss, cs.length = sz) → ∀ (j : Nat) (v : Value), vss.flatten[j]? = some v → ∃ cs, vss[j / sz]? = some cs ∧ cs[j % sz]? = some v
  | [], _, j, v, h => by simp at h
  | cs :: vss, hl, j, v, h => by
    rw [List.flatten_cons] at h
    have hcs := hl cs (by simp)
    by_cases hj : j < sz
    · rw [List.getElem?_append_left (by omega)] at h
      rw [Nat.div_eq_of_lt hj, Nat.mod_eq_of_lt hj]
      exact ⟨cs, rfl, h⟩
    · rw [List.getElem?_append_right (by omega), hcs] at h
      obtain ⟨ds, h1, h2⟩ := flat_get hsz (fun c hc => hl c (by simp [hc])) (j - sz) v h
      refine ⟨ds, ?_, ?_⟩
      · rw [show j / sz = (j - sz) / sz + 1 by rw [Nat.div_eq_sub_div hsz (by omega)]]
        exact h1
      · rw [Nat.mod_eq_sub_mod (by omega)]
        exact h2
section
variable {H : Type} {enc : TypeId × Value → H} {P : Program}
theorem open_listN {α : Type} (R : List Value → α → Prop) {sz : Nat} (hsz : 0 < sz) {w : World} {base : Nat} {t e : TypeId} {fuel : Nat} {v : Value} {x : DataW H × List MemPlace} (ht : P.underlying t = some (.slice e)) (hc : P.cellsOf e = sz)
    (hR : ∀ (n : Nat) (cs : List Value) (x : DataW H × List MemPlace), DataW.trod enc P w base (fun _ => true) true n e cs = some x → ∃ a, R cs a)
    (h : DataW.trod enc P w base (fun _ => true) true fuel t [v] = some x) :
    ∃ (A : Option Addr) (c : Nat) (xs : List α) (vss : List (List Value)), v = .slice A xs.length c ∧ xs.length ≤ c ∧ c ≤ maxLen ∧ vss.length = xs.length ∧ (∀ cs ∈ vss, cs.length = sz) ∧ Row w w.heap.size A vss.flatten ∧ ∀ (k : Nat) (a : α), xs[k]? = some a → ∃ cs, vss[k]? = some cs ∧ R cs a := by
  rcases open_slice ht h with ⟨h0, _⟩ | ⟨a, len, cap, m, fu, D, Pl, hcs, hb, hl, hm, hmm, hx, hel⟩
  · injection h0 with h0
    subst h0
    exact ⟨none, 0, [], [], rfl, by simp, by simp [maxLen], rfl, by simp, Row.nil, fun k a h => by simp at h⟩
  · injection hcs with hcs
    subst hcs
    simp only [if_true] at hmm
    rw [hc] at hel
    have hlist : ∀ n, n ≤ len → ∃ (xs : List α) (vss : List (List Value)), xs.length = n ∧ vss.length = n ∧ (∀ (k : Nat) (cs : List Value), vss[k]? = some cs → w.cells? base (a.add (k * sz)) sz = some cs) ∧ ∀ (k : Nat) (a : α), xs[k]? = some a → ∃ cs, vss[k]? = some cs ∧ R cs a := by
      intro n
      induction n with
      | zero => exact fun _ => ⟨[], [], rfl, rfl, fun k a h => by simp at h, fun k a h => by simp at h⟩
      | succ n ih =>
        intro hn
        obtain ⟨xs, vss, h1, h2, h3, h4⟩ := ih (by omega)
        obtain ⟨cs', g1, g2⟩ := hel n (by omega)
        obtain ⟨y, hy⟩ := hR _ _ _ g2
        refine ⟨xs ++ [y], vss ++ [cs'], by simp [h1], by simp [h2], fun k cs hk => ?_, fun k b hk => ?_⟩
        · rcases Nat.lt_trichotomy k n with q | q | q
          · rw [List.getElem?_append_left (by omega)] at hk
            exact h3 k cs hk
          · subst q
            rw [List.getElem?_append_right (by omega), h2, Nat.sub_self] at hk
            simp at hk
            exact hk ▸ g1
          · rw [List.getElem?_eq_none (by simp; omega)] at hk
            cases hk
        · rcases Nat.lt_trichotomy k n with q | q | q
          · rw [List.getElem?_append_left (by omega)] at hk
            rw [List.getElem?_append_left (by omega)]
            exact h4 k b hk
          · subst q
            rw [List.getElem?_append_right (by omega), h1, Nat.sub_self] at hk
            simp at hk
            rw [List.getElem?_append_right (by omega), h2, Nat.sub_self]
            exact ⟨cs', rfl, hk ▸ hy⟩
          · rw [List.getElem?_eq_none (by simp; omega)] at hk
            cases hk
    obtain ⟨xs, vss, h1, h2, h3, h4⟩ := hlist len (Nat.le_refl _)
    have hcell : ∀ k cs, vss[k]? = some cs → cs.length = sz ∧ ∀ i, i < sz → w.cell? ((a.add (k * sz)).add i) = cs[i]? := fun k cs hk => (World.cells?_some (h3 k cs hk)).2
    refine ⟨some a, cap, xs, vss, by rw [h1], by omega, hm, by omega, fun cs hcs => ?_, fun hne => ?_, h4⟩
    · obtain ⟨k, hk, e⟩ := List.getElem_of_mem hcs
      exact (hcell k cs (e ▸ List.getElem?_eq_getElem hk)).1
    · have hlen : ∀ cs ∈ vss, cs.length = sz := fun cs hcs => by
        obtain ⟨k, hk, e⟩ := List.getElem_of_mem hcs
        exact (hcell k cs (e ▸ List.getElem?_eq_getElem hk)).1
      have hpos : 0 < vss.length := by
        rcases Nat.eq_zero_or_pos vss.length with h0 | h0
        · have := List.eq_nil_of_length_eq_zero h0
          subst this
          simp at hne
        · exact h0
      have hc0 := (hcell 0 vss[0] (List.getElem?_eq_getElem hpos)).2 0 hsz
      have hl0 := (hcell 0 vss[0] (List.getElem?_eq_getElem hpos)).1
      have hc00 : w.cell? a = some ((vss[0])[0]'(by omega)) := by
        rw [← List.getElem?_eq_getElem, ← hc0]
        simp [Addr.add]
      have hs : a.spot = none := by
        unfold World.cell? at hc00
        split at hc00
        · split at hc00
          · cases hc00
          · rename_i hsp
            cases hsp' : a.spot with
            | none => rfl
            | some z => rw [hsp'] at hsp; simp at hsp
        · cases hc00
      obtain ⟨b, o, sp⟩ := a
      simp only at hs
      subst hs
      refine ⟨b, o, rfl, World.block_lt_of_cell? w _ hc00, fun j u hj => ?_⟩
      obtain ⟨cs, g1, g2⟩ := flat_get hsz hlen j u hj
      have hlt : j % sz < sz := Nat.mod_lt _ hsz
      have g3 := (hcell _ cs g1).2 _ hlt
      rw [g2] at g3
      rw [← g3]
      have e1 : o + j = o + (j / sz) * sz + j % sz := by rw [Nat.add_assoc, Nat.mul_comm, Nat.div_add_mod]
      rw [e1]
      unfold Addr.add
      by_cases q1 : (j / sz) * sz = 0 <;> by_cases q2 : j % sz = 0 <;> simp [q1, q2]
theorem array1 {α : Type} {cs : Array α} (h : cs.size = 1) : ∃ c0, cs = #[c0] := by
  obtain ⟨l⟩ := cs
  match l, h with
  | [c0], _ => exact ⟨c0, rfl⟩
theorem open_agg1 {w : World} {base : Nat} {spare : Nat → Bool} {held : Bool} {r : Reach} {b0 : Nat} {t : TypeId} {f0 : Field} {v : Value} {d : DataW H} {p : List MemPlace} (hs : P.underlying t = some (.struct #[f0])) (ho : f0.offset = 0) (hk : P.cellsOf f0.type = 1) (hC : P.cellsOf t = 1)
    (hv : Value.okWide P w r b0 t v) (h : DataW.Trod enc P w base spare held t v d p) :
    ∃ (v0 : Value) (y0 : DataW H × List MemPlace) (n : Nat), v = .agg #[v0] ∧ d = .agg [y0.1] ∧ p = y0.2 ∧ DataW.trod enc P w base spare held n f0.type [v0] = some y0 := by
  obtain ⟨cs, rfl, hsz⟩ := okWide_struct hs hv
  obtain ⟨c0, rfl⟩ := array1 (hsz.trans hC)
  obtain ⟨fuel, hf⟩ := h
  obtain ⟨y0, n, hx, _, h0⟩ := trod_struct1 hs hf
  simp only [Prod.mk.injEq] at hx
  exact ⟨c0, y0, n, rfl, hx.1, hx.2, by simpa [Value.cells, ho, hk] using h0⟩
end
end Go.UtYtkpblieanejmeaa
