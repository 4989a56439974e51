/-
  Memory with some blocks erased: what still reads there lies in other blocks; tables, properties, rows of rows there.
-/
import Derived.Test.YtkpblieanejmeaaBm0
import Derived.Test.YtkpblieanejmeaaOwn
namespace Go.UtYtkpblieanejmeaa
open Go.RowKit
open Classical in
/-- the world without what the blocks of E hold -/
noncomputable def era (w : World) (E : Nat → Prop) : World := { w with heap := w.heap.mapIdx fun i o => if E i then Obj.cells #[] 0 else o }
theorem era_size (w : World) (E : Nat → Prop) : (era w E).heap.size = w.heap.size := by simp [era]
theorem era_heap {w : World} {E : Nat → Prop} {b : Nat} (h : ¬ E b) : (era w E).heap[b]? = w.heap[b]? := by
  unfold era
  simp only [Array.getElem?_mapIdx]
  cases w.heap[b]? with
  | none => rfl
  | some o => simp [h]
theorem era_old {w : World} {E : Nat → Prop} {p : Addr} (h : E p.block) : (era w E).cell? p = none := by
  unfold World.cell? era
  simp only [Array.getElem?_mapIdx, h, if_true]
  cases w.heap[p.block]? with
  | none => rfl
  | some o => simp
theorem era_new {w : World} {E : Nat → Prop} {p : Addr} (h : ¬ E p.block) : (era w E).cell? p = w.cell? p := by
  unfold World.cell?
  rw [era_heap h]
theorem era_some {w : World} {E : Nat → Prop} {p : Addr} {v : Value} (h : (era w E).cell? p = some v) : w.cell? p = some v ∧ ¬ E p.block := by
  by_cases h1 : E p.block
  · rw [era_old h1] at h
    cases h
  · rw [era_new h1] at h
    exact ⟨h, h1⟩
section
variable {w w' : World} {B B' : Nat} {E E' : Nat → Prop} {A : Option Addr}
theorem Row.of_era {vs : List Value} (h : Row (era w E) B A vs) : Row w B A vs := fun hv => by
  obtain ⟨b, o, e, hb, hc⟩ := h hv
  exact ⟨b, o, e, hb, fun k v hk => (era_some (hc k v hk)).1⟩
/-- what lies outside of E reads on, if only blocks of E (or such as are too new) have changed, and E has grown by such blocks alone -/
theorem Row.era_keep {vs : List Value} (h : Row (era w E) B A vs) (hk : ∀ b, b < B → ¬ E b → w'.heap[b]? = w.heap[b]?) (he : ∀ b, b < B → E' b → E b) : Row (era w' E') B A vs := fun hv => by
  obtain ⟨b, o, e, hb, hc⟩ := h hv
  refine ⟨b, o, e, hb, fun k v hk' => ?_⟩
  obtain ⟨h1, h2⟩ := era_some (hc k v hk')
  have h3 : ¬ E b := h2
  rw [Go.UtYtkpblieanejmeaa.era_new (p := ⟨b, o + k, none⟩) (fun h => h3 (he b hb h)), ← h1]
  exact World.cell?_of_block (hk b hb h3)
theorem Row.era_new {vs : List Value} {N : Nat} (h : Row w B A vs) (hn : NewAt N A) (he : ∀ b, E b → b < N) : Row (era w E) B A vs := fun hv => by
  obtain ⟨b, o, e, hb, hc⟩ := h hv
  refine ⟨b, o, e, hb, fun k v hk' => ?_⟩
  have h1 : N ≤ b := hn _ e
  rw [Go.UtYtkpblieanejmeaa.era_new (p := ⟨b, o + k, none⟩) (fun h => by have := he b h; omega)]
  exact hc k v hk'
theorem Row.era_below {vs : List Value} (h : Row w B A vs) (he : ∀ b, E b → B ≤ b) : Row (era w E) B A vs := fun hv => by
  obtain ⟨b, o, e, hb, hc⟩ := h hv
  refine ⟨b, o, e, hb, fun k v hk' => ?_⟩
  rw [Go.UtYtkpblieanejmeaa.era_new (p := ⟨b, o + k, none⟩) (fun h => by have := he b h; omega)]
  exact hc k v hk'
theorem Rows2.of_era {xss : List (List Int)} (h : Rows2 (era w E) B A xss) : Rows2 w B A xss := by
  obtain ⟨vs, h1, h2, h3⟩ := h
  exact ⟨vs, h1, h2.of_era, fun k xs hk => by
    obtain ⟨A', c', a1, a2, a3, a4⟩ := h3 k xs hk
    exact ⟨A', c', a1, a2, a3, a4.of_era⟩⟩
theorem Rows2.era_keep {xss : List (List Int)} (h : Rows2 (era w E) B A xss) (hk : ∀ b, b < B → ¬ E b → w'.heap[b]? = w.heap[b]?) (he : ∀ b, b < B → E' b → E b) : Rows2 (era w' E') B A xss := by
  obtain ⟨vs, h1, h2, h3⟩ := h
  exact ⟨vs, h1, h2.era_keep hk he, fun k xs hk' => by
    obtain ⟨A', c', a1, a2, a3, a4⟩ := h3 k xs hk'
    exact ⟨A', c', a1, a2, a3, a4.era_keep hk he⟩⟩
theorem Rows2.era_below {xss : List (List Int)} (h : Rows2 w B A xss) (he : ∀ b, E b → B ≤ b) : Rows2 (era w E) B A xss := by
  obtain ⟨vs, h1, h2, h3⟩ := h
  exact ⟨vs, h1, h2.era_below he, fun k xs hk => by
    obtain ⟨A', c', a1, a2, a3, a4⟩ := h3 k xs hk
    exact ⟨A', c', a1, a2, a3, a4.era_below he⟩⟩
theorem StrsAt.of_era {l : List Nm} (h : StrsAt (era w E) B A l) : StrsAt w B A l := ⟨h.1.of_era, h.2⟩
theorem StrsAt.era_keep {l : List Nm} (h : StrsAt (era w E) B A l) (hk : ∀ b, b < B → ¬ E b → w'.heap[b]? = w.heap[b]?) (he : ∀ b, b < B → E' b → E b) : StrsAt (era w' E') B A l := ⟨h.1.era_keep hk he, h.2⟩
theorem AutAt.of_era {A' : Option Addr} {c c' : Nat} {nx mk : List (List Int)} (h : AutAt (era w E) B A c A' c' nx mk) : AutAt w B A c A' c' nx mk := ⟨⟨h.1.1.of_era, h.1.2⟩, h.2.1.of_era, h.2.2⟩
theorem AutAt.era_keep {A' : Option Addr} {c c' : Nat} {nx mk : List (List Int)} (h : AutAt (era w E) B A c A' c' nx mk) (hk : ∀ b, b < B → ¬ E b → w'.heap[b]? = w.heap[b]?) (he : ∀ b, b < B → E' b → E b) : AutAt (era w' E') B A c A' c' nx mk := ⟨⟨h.1.1.era_keep hk he, h.1.2⟩, h.2.1.era_keep hk he, h.2.2⟩
theorem TabAt.of_era {x : TA} {t : BT} (h : TabAt (era w E) B x t) : TabAt w B x t := ⟨⟨h.1.1.of_era, h.1.2⟩, ⟨h.2.1.1.of_era, h.2.1.2⟩, h.2.2.1.of_era, h.2.2.2.of_era⟩
theorem TabAt.era_keep {x : TA} {t : BT} (h : TabAt (era w E) B x t) (hk : ∀ b, b < B → ¬ E b → w'.heap[b]? = w.heap[b]?) (he : ∀ b, b < B → E' b → E b) : TabAt (era w' E') B x t := ⟨⟨h.1.1.era_keep hk he, h.1.2⟩, ⟨h.2.1.1.era_keep hk he, h.2.1.2⟩, h.2.2.1.era_keep hk he, h.2.2.2.era_keep hk he⟩
theorem PrAt.of_era {x : PA} {p : PR} (h : PrAt (era w E) B x p) : PrAt w B x p := ⟨⟨h.1.1.of_era, h.1.2⟩, h.2.1.of_era, h.2.2⟩
theorem PrAt.era_keep {x : PA} {p : PR} (h : PrAt (era w E) B x p) (hk : ∀ b, b < B → ¬ E b → w'.heap[b]? = w.heap[b]?) (he : ∀ b, b < B → E' b → E b) : PrAt (era w' E') B x p := ⟨⟨h.1.1.era_keep hk he, h.1.2⟩, h.2.1.era_keep hk he, h.2.2⟩
/-- a row of the call's own, its block not among E -/
theorem ow_era {base e size n c : Nat} {xs : List Value} (h : w.ownsRow base e size (.slice A n c) n xs) (hE : ∀ g, (Value.slice A n c).ownBlock = some g → ¬ E g) : Row (era w E) w.heap.size A xs := fun hne => by
  obtain ⟨hr, _, _⟩ := ow_row h
  obtain ⟨b, o, e', hb, hc⟩ := hr hne
  subst e'
  have hnb : ¬ E b := by
    rcases h.2 with ⟨h1, _⟩ | ⟨g, cap, cur, h1, _⟩
    · cases h1
    · injection h1 with h1 _ _
      injection h1 with h1
      injection h1 with h1 h2
      subst h1 h2
      exact hE b (by simp [Value.ownBlock])
  exact ⟨b, o, rfl, hb, fun k v hk => (Go.UtYtkpblieanejmeaa.era_new (p := ⟨b, o + k, none⟩) hnb).trans (hc k v hk)⟩
end
/-- what is older than B, and what lies outside of E, is as it was -/
def Kept (B : Nat) (E : Nat → Prop) (w w' : World) : Prop := Below B w w' ∧ ∀ b, b < w.heap.size → ¬ E b → w'.heap[b]? = w.heap[b]?
theorem Kept.below {B : Nat} {E : Nat → Prop} {w w' : World} (hB : B ≤ w.heap.size) (h : Below w.heap.size w w') : Kept B E w w' := ⟨h.mono hB, fun b hb _ => h.block b hb⟩
/-- the foot has grown by new blocks alone -/
def Grew (w : World) (E E' : Nat → Prop) : Prop := ∀ b, E' b → E b ∨ w.heap.size ≤ b
theorem Row.kept {B : Nat} {E E' : Nat → Prop} {w w' : World} {A : Option Addr} {vs : List Value} (h : Row (era w E) w.heap.size A vs) (hk : Kept B E w w') (hg : Grew w E E') : Row (era w' E') w'.heap.size A vs :=
  (h.era_keep (fun b hb hE => hk.2 b hb hE) (fun b hb hE => (hg b hE).resolve_right (by omega))).more hk.1.size
theorem Kept.refl {B : Nat} (E : Nat → Prop) (w : World) : Kept B E w w := ⟨Below.refl _ _, fun _ _ _ => rfl⟩
theorem Grew.refl (w : World) (E : Nat → Prop) : Grew w E E := fun _ h => .inl h
theorem Kept.trans {B : Nat} {E E' : Nat → Prop} {w w' w'' : World} (h : Kept B E w w') (hg : Grew w E E') (k : Kept B E' w' w'') : Kept B E w w'' :=
  ⟨h.1.trans k.1, fun b hb hE => (k.2 b (Nat.lt_of_lt_of_le hb h.1.size) (fun hE' => (hg b hE').elim hE (by omega))).trans (h.2 b hb hE)⟩
theorem Grew.trans {E E' E'' : Nat → Prop} {w w' : World} (hs : w.heap.size ≤ w'.heap.size) (h : Grew w E E') (k : Grew w' E' E'') : Grew w E E'' := fun b hb => by
  rcases k b hb with h1 | h1
  · exact h b h1
  · exact .inr (by omega)
end Go.UtYtkpblieanejmeaa
