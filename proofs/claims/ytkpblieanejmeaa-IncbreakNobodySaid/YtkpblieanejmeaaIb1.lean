/-
  A document in memory.
-/
import Derived.Test.YtkpblieanejmeaaEr2
import Derived.Test.YtkpblieanejmeaaIb0
import Derived.Test.YtkpblieanejmeaaBk0
namespace Go.UtYtkpblieanejmeaa
open Go.RowKit
/-- the cells of a document -/
def docC (uv : Value) (x : PA) (p : PR) (y : TA) (t : BT) (At : Option Addr) (nX cX : Nat) (Ac : Option Addr) (nC cC : Nat) : Array Value :=
  #[uv, .slice x.n p.names.length x.cn, .slice x.s p.spans.length x.cs, .slice y.c t.cls.length y.cc, .slice y.a t.act.length y.ca, .slice y.ln t.ln.length y.cln, .slice y.lm t.lm.length y.clm, .slice y.rn t.rn.length y.crn, .slice y.rm t.rm.length y.crm, .slice At nX cX, .slice Ac nC cC, .bool true]
/-- the blocks that the methods of a document change: its own, and that of its history -/
def Foot (D : Nat) (uv : Value) : Nat → Prop := fun b => b = D ∨ uv.ownBlock = some b
/-- a row of edits -/
def EdsAt (w : World) (B : Nat) (vs : List Value) (U : List EdN) : Prop :=
  vs.length = U.length * 3 ∧ ∀ (k : Nat) (e : EdN), U[k]? = some e → ∃ A c, vs[k * 3]? = some (.int .i64 (e.1 : Int)) ∧ vs[k * 3 + 1]? = some (.int .i64 (e.2.1 : Int)) ∧ vs[k * 3 + 2]? = some (.slice A e.2.2.length c) ∧ e.2.2.length ≤ c ∧ c ≤ maxLen ∧ Row w B A (ints e.2.2)
theorem EdsAt.nil {w : World} {B : Nat} : EdsAt w B [] [] := ⟨rfl, fun k e h => by simp at h⟩
theorem EdsAt.era_keep {w w' : World} {B : Nat} {E E' : Nat → Prop} {vs : List Value} {U : List EdN} (h : EdsAt (era w E) B vs U) (hk : ∀ b, b < B → ¬ E b → w'.heap[b]? = w.heap[b]?) (he : ∀ b, b < B → E' b → E b) : EdsAt (era w' E') B vs U :=
  ⟨h.1, fun k e hk' => by
    obtain ⟨A, c, h1, h2, h3, h4, h5, h6⟩ := h.2 k e hk'
    exact ⟨A, c, h1, h2, h3, h4, h5, h6.era_keep hk he⟩⟩
theorem EdsAt.more {w : World} {B B' : Nat} {vs : List Value} {U : List EdN} (h : EdsAt w B vs U) (hB : B ≤ B') : EdsAt w B' vs U :=
  ⟨h.1, fun k e hk' => by
    obtain ⟨A, c, h1, h2, h3, h4, h5, h6⟩ := h.2 k e hk'
    exact ⟨A, c, h1, h2, h3, h4, h5, h6.more hB⟩⟩
theorem EdsAt.push {w : World} {B : Nat} {vs : List Value} {U : List EdN} (h : EdsAt w B vs U) {i d : Nat} {ins : List Int} {A : Option Addr} {c : Nat} (h1 : ins.length ≤ c) (h2 : c ≤ maxLen) (hr : Row w B A (ints ins)) :
    EdsAt w B (vs ++ [.int .i64 (i : Int), .int .i64 (d : Int), .slice A ins.length c]) (U ++ [(i, d, ins)]) := by
  refine ⟨by simp [h.1]; omega, fun k e hk => ?_⟩
  by_cases hlt : k < U.length
  · rw [List.getElem?_append_left hlt] at hk
    obtain ⟨A', c', g1, g2, g3, g4⟩ := h.2 k e hk
    have hl := h.1
    exact ⟨A', c', by rw [List.getElem?_append_left (by omega)]; exact g1, by rw [List.getElem?_append_left (by omega)]; exact g2, by rw [List.getElem?_append_left (by omega)]; exact g3, g4⟩
  · have hk2 : k = U.length := by
      have := (List.getElem?_eq_some_iff.1 hk).1
      simp at this
      omega
    subst hk2
    rw [List.getElem?_append_right (Nat.le_refl _), Nat.sub_self] at hk
    simp at hk
    subst hk
    have hl := h.1
    refine ⟨A, c, ?_, ?_, ?_, h1, h2, hr⟩
    · rw [List.getElem?_append_right (by omega), hl, Nat.sub_self]; rfl
    · rw [List.getElem?_append_right (by omega), hl, show U.length * 3 + 1 - U.length * 3 = 1 by omega]; rfl
    · rw [List.getElem?_append_right (by omega), hl, show U.length * 3 + 2 - U.length * 3 = 2 by omega]; rfl
theorem EdsAt.pop {w : World} {B : Nat} {vs : List Value} {U : List EdN} {e : EdN} (h : EdsAt w B vs (U ++ [e])) :
    EdsAt w B (vs.take (U.length * 3)) U ∧ ∃ A c, vs[U.length * 3]? = some (.int .i64 (e.1 : Int)) ∧ vs[U.length * 3 + 1]? = some (.int .i64 (e.2.1 : Int)) ∧ vs[U.length * 3 + 2]? = some (.slice A e.2.2.length c) ∧ e.2.2.length ≤ c ∧ c ≤ maxLen ∧ Row w B A (ints e.2.2) := by
  refine ⟨⟨?_, fun k e' hk => ?_⟩, h.2 U.length e (by rw [List.getElem?_append_right (Nat.le_refl _), Nat.sub_self]; rfl)⟩
  · have := h.1
    simp at this ⊢
    omega
  · have hlt := (List.getElem?_eq_some_iff.1 hk).1
    obtain ⟨A, c, g1, g2, g3, g4⟩ := h.2 k e' (by rw [List.getElem?_append_left hlt]; exact hk)
    exact ⟨A, c, by rw [List.getElem?_take, if_pos (by omega)]; exact g1, by rw [List.getElem?_take, if_pos (by omega)]; exact g2, by rw [List.getElem?_take, if_pos (by omega)]; exact g3, g4⟩
/-- the history of a document: a row of its own, or, when an edit has been taken off, a full slice (to append to it is to copy it) -/
def HisAt (w : World) (B : Nat) (uv : Value) (n : Nat) (vs : List Value) : Prop :=
  w.ownsRow B 46 3 uv n vs ∨ ∃ A, uv = .slice A n n ∧ n ≤ maxLen ∧ vs.length = n * 3 ∧ Row w w.heap.size A vs ∧ ∀ g, uv.ownBlock = some g → B ≤ g ∧ g < w.heap.size
theorem HisAt.nil {w : World} {B : Nat} : HisAt w B (.slice none 0 0) 0 [] := .inl (own_nil w)
theorem HisAt.len {w : World} {B n : Nat} {uv : Value} {vs : List Value} (h : HisAt w B uv n vs) : vs.length = n * 3 := by
  rcases h with h | ⟨A, -, -, h, -⟩
  · exact h.1
  · exact h
theorem HisAt.row {w : World} {B n : Nat} {uv : Value} {vs : List Value} (h : HisAt w B uv n vs) : ∃ A c, uv = .slice A n c ∧ n ≤ c ∧ c ≤ maxLen ∧ Row w w.heap.size A vs := by
  rcases h with h | ⟨A, e, h1, h2, h3, h4⟩
  · exact own_row h
  · exact ⟨A, n, e, Nat.le_refl _, h1, h3⟩
theorem HisAt.lt {w : World} {B n : Nat} {uv : Value} {vs : List Value} (h : HisAt w B uv n vs) : ∀ g, uv.ownBlock = some g → B ≤ g ∧ g < w.heap.size := by
  rcases h with h | ⟨A, e, h1, h2, h3, h4⟩
  · exact h.lt
  · exact h4
theorem HisAt.base {w : World} {B n : Nat} {uv : Value} {vs : List Value} (h : HisAt w B uv n vs) : ∀ g, uv.ownBlock = some g → B ≤ g := fun g hg => (h.lt g hg).1
theorem HisAt.keep {w w' : World} {B n : Nat} {uv : Value} {vs : List Value} (h : HisAt w B uv n vs) (hs : w.heap.size ≤ w'.heap.size) (hk : ∀ g, uv.ownBlock = some g → g < w.heap.size → w'.heap[g]? = w.heap[g]?) : HisAt w' B uv n vs := by
  rcases h with h | ⟨A, rfl, h1, h2, h3, h4⟩
  · refine .inl ⟨h.1, ?_⟩
    rcases h.2 with h' | ⟨g, cap, cur, hv, hb, hh, h'⟩
    · exact .inl h'
    · exact .inr ⟨g, cap, cur, hv, hb, (hk g (by rw [hv]; rfl) (Array.getElem?_eq_some_iff.1 hh).1).trans hh, h'⟩
  · refine .inr ⟨A, rfl, h1, h2, fun hne => ?_, fun g hg => ⟨(h4 g hg).1, by have := (h4 g hg).2; omega⟩⟩
    obtain ⟨b, o, rfl, hb, hc⟩ := h3 hne
    exact ⟨b, o, rfl, by omega, fun k v hk' => (World.cell?_of_block (hk b rfl hb)).trans (hc k v hk')⟩
theorem HisAt.below {w w' : World} {B n : Nat} {uv : Value} {vs : List Value} (h : HisAt w B uv n vs) (hb : Below w.heap.size w w') : HisAt w' B uv n vs := h.keep hb.size (fun g _ hg => hb.block g hg)
/-- the document in block D; uv: its history -/
def DocAt (w : World) (B D : Nat) (uv : Value) (p : PR) (t : BT) (X : List Int) (U : List EdN) : Prop :=
  ∃ (x : PA) (y : TA) (At : Option Addr) (cX : Nat) (Ac : Option Addr) (cC : Nat) (vs : List Value),
    Blk w D 71 (docC uv x p y t At X.length cX Ac (bndL p t X).length cC) ∧ (B ≤ D ∧ ∀ g, uv.ownBlock = some g → g ≠ D) ∧
    (HisAt w B uv U.length vs ∧ EdsAt (era w (Foot D uv)) w.heap.size vs U) ∧
    PrAt (era w (Foot D uv)) w.heap.size x p ∧ TabAt (era w (Foot D uv)) w.heap.size y t ∧
    (Row (era w (Foot D uv)) w.heap.size At (ints X) ∧ X.length ≤ cX ∧ cX ≤ maxLen) ∧
    (Row (era w (Foot D uv)) w.heap.size Ac (ints (bndL p t X)) ∧ (bndL p t X).length ≤ cC ∧ cC ≤ maxLen)
theorem DocAt.after {w w' : World} {B D : Nat} {uv : Value} {p : PR} {t : BT} {X : List Int} {U : List EdN} (h : DocAt w B D uv p t X U) (hb : Below w.heap.size w w') : DocAt w' B D uv p t X U := by
  obtain ⟨x, y, At, cX, Ac, cC, vs, h1, h2, ⟨h3, h4⟩, h5, h6, h7, h8⟩ := h
  have hk : ∀ b, b < w.heap.size → ¬ Foot D uv b → w'.heap[b]? = w.heap[b]? := fun b hb' _ => hb.block b hb'
  have he : ∀ b, b < w.heap.size → Foot D uv b → Foot D uv b := fun _ _ h => h
  exact ⟨x, y, At, cX, Ac, cC, vs, h1.after hb, h2, ⟨h3.below hb, (h4.era_keep hk he).more hb.size⟩, (h5.era_keep hk he).more hb.size, (h6.era_keep hk he).more hb.size, ⟨(h7.1.era_keep hk he).more hb.size, h7.2⟩, ⟨(h8.1.era_keep hk he).more hb.size, h8.2⟩⟩
/-- all blocks of the foot lie from B on, and are there -/
theorem DocAt.foot {w : World} {B D : Nat} {uv : Value} {p : PR} {t : BT} {X : List Int} {U : List EdN} (h : DocAt w B D uv p t X U) : ∀ b, Foot D uv b → B ≤ b := by
  obtain ⟨x, y, At, cX, Ac, cC, vs, h1, h2, ⟨h3, h4⟩, -⟩ := h
  rintro b (rfl | hb)
  · exact h2.1
  · exact h3.base b hb
theorem DocAt.lt {w : World} {B D : Nat} {uv : Value} {p : PR} {t : BT} {X : List Int} {U : List EdN} (h : DocAt w B D uv p t X U) : D < w.heap.size := by
  obtain ⟨x, y, At, cX, Ac, cC, vs, h1, -⟩ := h
  exact h1.lt
theorem EdsAt.kept {w w' : World} {B : Nat} {E E' : Nat → Prop} {vs : List Value} {U : List EdN} (h : EdsAt (era w E) w.heap.size vs U) (hk : Kept B E w w') (hg : Grew w E E') : EdsAt (era w' E') w'.heap.size vs U :=
  (h.era_keep (fun b hb hE => hk.2 b hb hE) (fun b hb hE => (hg b hE).resolve_right (by omega))).more hk.1.size
theorem TabAt.kept {w w' : World} {B : Nat} {E E' : Nat → Prop} {y : TA} {t : BT} (h : TabAt (era w E) w.heap.size y t) (hk : Kept B E w w') (hg : Grew w E E') : TabAt (era w' E') w'.heap.size y t :=
  (h.era_keep (fun b hb hE => hk.2 b hb hE) (fun b hb hE => (hg b hE).resolve_right (by omega))).more hk.1.size
theorem PrAt.kept {w w' : World} {B : Nat} {E E' : Nat → Prop} {x : PA} {p : PR} (h : PrAt (era w E) w.heap.size x p) (hk : Kept B E w w') (hg : Grew w E E') : PrAt (era w' E') w'.heap.size x p :=
  (h.era_keep (fun b hb hE => hk.2 b hb hE) (fun b hb hE => (hg b hE).resolve_right (by omega))).more hk.1.size
theorem TabAt.era_below {w : World} {B : Nat} {E : Nat → Prop} {y : TA} {t : BT} (h : TabAt w B y t) (he : ∀ b, E b → B ≤ b) : TabAt (era w E) B y t :=
  ⟨⟨⟨h.1.1.1.era_below he, h.1.1.2⟩, h.1.2⟩, ⟨h.2.1.1.era_below he, h.2.1.2⟩, ⟨⟨h.2.2.1.1.1.era_below he, h.2.2.1.1.2⟩, h.2.2.1.2.1.era_below he, h.2.2.1.2.2⟩, ⟨⟨h.2.2.2.1.1.era_below he, h.2.2.2.1.2⟩, h.2.2.2.2.1.era_below he, h.2.2.2.2.2⟩⟩
theorem PrAt.era_below {w : World} {B : Nat} {E : Nat → Prop} {x : PA} {p : PR} (h : PrAt w B x p) (he : ∀ b, E b → B ≤ b) : PrAt (era w E) B x p :=
  ⟨⟨⟨h.1.1.1.era_below he, h.1.1.2⟩, h.1.2⟩, h.2.1.era_below he, h.2.2⟩
/-- the history has grown -/
theorem his_kept {B D : Nat} {uv uv' : Value} {w w' : World} (hB : B ≤ w.heap.size) (hg : w.grownBy w' uv.ownBlock) (hb : ∀ g, uv.ownBlock = some g → B ≤ g) (ho : uv'.ownBlock = uv.ownBlock ∨ uv'.ownBlock = some w.heap.size) :
    Kept B (Foot D uv) w w' ∧ Grew w (Foot D uv) (Foot D uv') := by
  refine ⟨⟨(Below.refl _ _).grown hg hB hb, fun b hlt hE => hg.block b hlt (fun e => hE (.inr e.symm))⟩, fun b hb' => ?_⟩
  rcases hb' with e | e
  · exact .inl (.inl e)
  · rcases ho with h1 | h1
    · exact .inl (.inr (h1 ▸ e))
    · rw [h1] at e
      injection e with e
      exact .inr (by omega)
/-- a cell of the document has been stored -/
theorem doc_set {B D k : Nat} {uv u : Value} {w : World} (hB : B ≤ D) : Kept B (Foot D uv) w (w.setCell ⟨D, k, none⟩ u) :=
  ⟨(Below.refl _ _).setCell (p := ⟨D, k, none⟩) hB u, fun b _ hE => Below.heap_setCell _ _ _ b (fun e => hE (.inl e))⟩
theorem HisAt.set {w : World} {B D n k : Nat} {uv u : Value} {vs : List Value} (h : HisAt w B uv n vs) (hne : ∀ g, uv.ownBlock = some g → g ≠ D) : HisAt (w.setCell ⟨D, k, none⟩ u) B uv n vs :=
  h.keep (by simp [World.setCell]) (fun g hg _ => Below.heap_setCell _ _ _ g (hne g hg))
/-- the foot, and more blocks that the document lies apart from -/
def FootE (E : Nat → Prop) (D : Nat) (uv : Value) : Nat → Prop := fun b => Foot D uv b ∨ E b
theorem footE_false (D : Nat) (uv : Value) : FootE (fun _ => False) D uv = Foot D uv := by
  funext b
  simp [FootE]
theorem Kept.ext {E : Nat → Prop} {B D : Nat} {uv : Value} {w w' : World} (h : Kept B (Foot D uv) w w') : Kept B (FootE E D uv) w w' := ⟨h.1, fun b hb hE => h.2 b hb (fun h => hE (.inl h))⟩
theorem Grew.ext {E : Nat → Prop} {D : Nat} {uv uv' : Value} {w : World} (h : Grew w (Foot D uv) (Foot D uv')) : Grew w (FootE E D uv) (FootE E D uv') := fun b hb => by
  rcases hb with hb | hb
  · exact (h b hb).imp .inl id
  · exact .inl (.inr hb)
/-- the document in block D, apart from the blocks of E -/
def DocAtE (E : Nat → Prop) (w : World) (B D : Nat) (uv : Value) (p : PR) (t : BT) (X : List Int) (U : List EdN) : Prop :=
  ∃ (x : PA) (y : TA) (At : Option Addr) (cX : Nat) (Ac : Option Addr) (cC : Nat) (vs : List Value),
    Blk w D 71 (docC uv x p y t At X.length cX Ac (bndL p t X).length cC) ∧ (B ≤ D ∧ ∀ g, uv.ownBlock = some g → g ≠ D) ∧
    (HisAt w B uv U.length vs ∧ EdsAt (era w (FootE E D uv)) w.heap.size vs U) ∧
    PrAt (era w (FootE E D uv)) w.heap.size x p ∧ TabAt (era w (FootE E D uv)) w.heap.size y t ∧
    (Row (era w (FootE E D uv)) w.heap.size At (ints X) ∧ X.length ≤ cX ∧ cX ≤ maxLen) ∧
    (Row (era w (FootE E D uv)) w.heap.size Ac (ints (bndL p t X)) ∧ (bndL p t X).length ≤ cC ∧ cC ≤ maxLen)
theorem docAtE_false {w : World} {B D : Nat} {uv : Value} {p : PR} {t : BT} {X : List Int} {U : List EdN} : DocAtE (fun _ => False) w B D uv p t X U ↔ DocAt w B D uv p t X U := by
  unfold DocAtE DocAt
  rw [footE_false]
theorem DocAtE.after {E : Nat → Prop} {w w' : World} {B D : Nat} {uv : Value} {p : PR} {t : BT} {X : List Int} {U : List EdN} (h : DocAtE E w B D uv p t X U) (hb : Below w.heap.size w w') : DocAtE E w' B D uv p t X U := by
  obtain ⟨x, y, At, cX, Ac, cC, vs, h1, h2, ⟨h3, h4⟩, h5, h6, h7, h8⟩ := h
  have hk : ∀ b, b < w.heap.size → ¬ FootE E D uv b → w'.heap[b]? = w.heap[b]? := fun b hb' _ => hb.block b hb'
  have he : ∀ b, b < w.heap.size → FootE E D uv b → FootE E D uv b := fun _ _ h => h
  exact ⟨x, y, At, cX, Ac, cC, vs, h1.after hb, h2, ⟨h3.below hb, (h4.era_keep hk he).more hb.size⟩, (h5.era_keep hk he).more hb.size, (h6.era_keep hk he).more hb.size, ⟨(h7.1.era_keep hk he).more hb.size, h7.2⟩, ⟨(h8.1.era_keep hk he).more hb.size, h8.2⟩⟩
/-- newer blocks are apart -/
theorem DocAt.toE {E : Nat → Prop} {w w' : World} {B D : Nat} {uv : Value} {p : PR} {t : BT} {X : List Int} {U : List EdN} (h : DocAt w B D uv p t X U) (hb : Below w.heap.size w w') (hE : ∀ b, E b → w.heap.size ≤ b) : DocAtE E w' B D uv p t X U := by
  obtain ⟨x, y, At, cX, Ac, cC, vs, h1, h2, ⟨h3, h4⟩, h5, h6, h7, h8⟩ := h
  have hk : ∀ b, b < w.heap.size → ¬ Foot D uv b → w'.heap[b]? = w.heap[b]? := fun b hb' _ => hb.block b hb'
  have he : ∀ b, b < w.heap.size → FootE E D uv b → Foot D uv b := fun b hb' h => h.elim id (fun h => by have := hE b h; omega)
  exact ⟨x, y, At, cX, Ac, cC, vs, h1.after hb, h2, ⟨h3.below hb, (h4.era_keep hk he).more hb.size⟩, (h5.era_keep hk he).more hb.size, (h6.era_keep hk he).more hb.size, ⟨(h7.1.era_keep hk he).more hb.size, h7.2⟩, ⟨(h8.1.era_keep hk he).more hb.size, h8.2⟩⟩
/-- blocks that the document lies apart from have changed -/
theorem DocAtE.back {E : Nat → Prop} {w w' : World} {B D : Nat} {uv : Value} {p : PR} {t : BT} {X : List Int} {U : List EdN} (h : DocAtE E w B D uv p t X U) (hk : ∀ b, ¬ E b → w'.heap[b]? = w.heap[b]?) (hs : w'.heap.size = w.heap.size) (hD : ¬ E D) (ho : ∀ g, uv.ownBlock = some g → ¬ E g) : DocAt w' B D uv p t X U := by
  obtain ⟨x, y, At, cX, Ac, cC, vs, h1, h2, ⟨h3, h4⟩, h5, h6, h7, h8⟩ := h
  have hk' : ∀ b, b < w.heap.size → ¬ FootE E D uv b → w'.heap[b]? = w.heap[b]? := fun b _ h => hk b (fun h' => h (.inr h'))
  have he : ∀ b, b < w.heap.size → Foot D uv b → FootE E D uv b := fun _ _ h => .inl h
  unfold DocAt
  rw [hs]
  exact ⟨x, y, At, cX, Ac, cC, vs, (hk D hD).trans h1, h2, ⟨h3.keep (by omega) (fun g hg _ => hk g (ho g hg)), h4.era_keep hk' he⟩, h5.era_keep hk' he, h6.era_keep hk' he, ⟨h7.1.era_keep hk' he, h7.2⟩, ⟨h8.1.era_keep hk' he, h8.2⟩⟩
/-- as back, but the document is still held apart from the rest of E -/
theorem DocAtE.back2 {E E' : Nat → Prop} {w w' : World} {B D : Nat} {uv : Value} {p : PR} {t : BT} {X : List Int} {U : List EdN} (h : DocAtE E w B D uv p t X U) (hk : ∀ b, ¬ E b → w'.heap[b]? = w.heap[b]?) (hs : w'.heap.size = w.heap.size) (hD : ¬ E D) (ho : ∀ g, uv.ownBlock = some g → ¬ E g) (hE : ∀ b, E' b → E b) : DocAtE E' w' B D uv p t X U := by
  obtain ⟨x, y, At, cX, Ac, cC, vs, h1, h2, ⟨h3, h4⟩, h5, h6, h7, h8⟩ := h
  have hk' : ∀ b, b < w.heap.size → ¬ FootE E D uv b → w'.heap[b]? = w.heap[b]? := fun b _ h => hk b (fun h' => h (.inr h'))
  have he : ∀ b, b < w.heap.size → FootE E' D uv b → FootE E D uv b := fun _ _ h => h.imp id (hE _)
  unfold DocAtE
  rw [hs]
  exact ⟨x, y, At, cX, Ac, cC, vs, (hk D hD).trans h1, h2, ⟨h3.keep (by omega) (fun g hg _ => hk g (ho g hg)), h4.era_keep hk' he⟩, h5.era_keep hk' he, h6.era_keep hk' he, ⟨h7.1.era_keep hk' he, h7.2⟩, ⟨h8.1.era_keep hk' he, h8.2⟩⟩
/-- more blocks, newer ones, are apart -/
theorem DocAtE.moreE {E E' : Nat → Prop} {w w' : World} {B D : Nat} {uv : Value} {p : PR} {t : BT} {X : List Int} {U : List EdN} (h : DocAtE E w B D uv p t X U) (hb : Below w.heap.size w w') (hE : ∀ b, E' b → E b ∨ w.heap.size ≤ b) : DocAtE E' w' B D uv p t X U := by
  obtain ⟨x, y, At, cX, Ac, cC, vs, h1, h2, ⟨h3, h4⟩, h5, h6, h7, h8⟩ := h
  have hk : ∀ b, b < w.heap.size → ¬ FootE E D uv b → w'.heap[b]? = w.heap[b]? := fun b hb' _ => hb.block b hb'
  have he : ∀ b, b < w.heap.size → FootE E' D uv b → FootE E D uv b := fun b hb' h => h.imp id (fun h => (hE b h).resolve_right (by omega))
  exact ⟨x, y, At, cX, Ac, cC, vs, h1.after hb, h2, ⟨h3.below hb, (h4.era_keep hk he).more hb.size⟩, (h5.era_keep hk he).more hb.size, (h6.era_keep hk he).more hb.size, ⟨(h7.1.era_keep hk he).more hb.size, h7.2⟩, ⟨(h8.1.era_keep hk he).more hb.size, h8.2⟩⟩
/-- block g alone has changed, from which the document lies apart -/
theorem DocAtE.back2' {E : Nat → Prop} {g : Nat} {w w' : World} {B D : Nat} {uv : Value} {p : PR} {t : BT} {X : List Int} {U : List EdN} (h : DocAtE (fun b => E b ∨ b = g) w B D uv p t X U) (hk : ∀ b, b ≠ g → w'.heap[b]? = w.heap[b]?) (hs : w'.heap.size = w.heap.size) (hD : ¬ D = g) (ho : ∀ b, uv.ownBlock = some b → ¬ b = g) : DocAtE E w' B D uv p t X U := by
  obtain ⟨x, y, At, cX, Ac, cC, vs, h1, h2, ⟨h3, h4⟩, h5, h6, h7, h8⟩ := h
  have hk' : ∀ b, b < w.heap.size → ¬ FootE (fun b => E b ∨ b = g) D uv b → w'.heap[b]? = w.heap[b]? := fun b _ h => hk b (fun h' => h (.inr (.inr h')))
  have he : ∀ b, b < w.heap.size → FootE E D uv b → FootE (fun b => E b ∨ b = g) D uv b := fun _ _ h => h.imp id .inl
  unfold DocAtE
  rw [hs]
  exact ⟨x, y, At, cX, Ac, cC, vs, (hk D hD).trans h1, h2, ⟨h3.keep (by omega) (fun b hg _ => hk b (ho b hg)), h4.era_keep hk' he⟩, h5.era_keep hk' he, h6.era_keep hk' he, ⟨h7.1.era_keep hk' he, h7.2⟩, ⟨h8.1.era_keep hk' he, h8.2⟩⟩
theorem DocAtE.doc {E : Nat → Prop} {w : World} {B D : Nat} {uv : Value} {p : PR} {t : BT} {X : List Int} {U : List EdN} (h : DocAtE E w B D uv p t X U) : DocAt w B D uv p t X U := by
  obtain ⟨x, y, At, cX, Ac, cC, vs, h1, h2, ⟨h3, h4⟩, h5, h6, h7, h8⟩ := h
  have hk' : ∀ b, b < w.heap.size → ¬ FootE E D uv b → w.heap[b]? = w.heap[b]? := fun b _ h => rfl
  have he : ∀ b, b < w.heap.size → Foot D uv b → FootE E D uv b := fun _ _ h => .inl h
  exact ⟨x, y, At, cX, Ac, cC, vs, h1, h2, ⟨h3, h4.era_keep hk' he⟩, h5.era_keep hk' he, h6.era_keep hk' he, ⟨h7.1.era_keep hk' he, h7.2⟩, ⟨h8.1.era_keep hk' he, h8.2⟩⟩
/-- append of things onto the history: a row of the document's own again -/
theorem run_append_his {P : Program} (w : World) (t ty : TypeId) (i : TypeInfo) (z : Value) (bytes : Nat) (ht : P.underlying t = some (.slice 46)) (hi : P.info? 46 = some i) (hz : i.zero = some z)
    (hsize : i.size = 3) (hby : i.bytes = bytes) (hzs : z.cells.size = 3) (B : Nat) (v : Value) (n : Nat) (xs : List Value) (hown : HisAt w B v n xs)
    (a : Addr) (m c : Nat) (news : List Value) (hm : 0 < m) (hl : news.length = m * 3) (hnews : ∀ j u, news[j]? = some u → w.cell? (a.add j) = some u) (h1 : ∀ u ∈ news, u.oneCell' = true)
    (h63 : n + m ≤ maxLen) (hbytes : (n + m) * bytes ≤ 140737488355328) (hbase : B ≤ w.heap.size) :
    ∃ v' w', (Builtin.append_ #[t, t] ty #[v, .slice (some a) m c]).run P w = .ok v' w' ∧ w'.ownsRow B 46 3 v' (n + m) (xs ++ news) ∧ w.grownBy w' v.ownBlock ∧
      (v'.ownBlock = v.ownBlock ∨ v'.ownBlock = some w.heap.size) := by
  rcases hown with hown | ⟨A, rfl, hn, hx, hr, hb⟩
  · obtain ⟨v', w', hrun, g1, g2, _, g4⟩ := run_append_own_at (P := P) w B t ty 46 i z 3 bytes ht hi hz hsize hby hzs (by omega) v n xs hown a m c news hl hnews h1 h63 hbytes hbase
    exact ⟨v', w', hrun, g1, g2, g4⟩
  · subst hby
    have hlen : (xs ++ news).length = (n + m) * 3 := by rw [List.length_append, hx, hl, Nat.add_mul]
    have hge := grownCap_ge w (n + m) n 46
    have hcm : grownCap w (n + m) n 46 ≤ maxLen := grownCap_le_maxLen w (n + m) n 46 h63
    have hsmall : n + m ≤ 9223372036854775807 := by simp only [maxLen] at h63; omega
    have grown : ∀ (row : Option Nat), (w.drew.alloc (.cells (xs.toArray ++ news.toArray ++ Builtin.zeroCells z.cells (grownCap w (n + m) n 46 - (n + m))) 46)).ownsRow B 46 3
        (.slice (some ⟨w.heap.size, 0, none⟩) (n + m) (grownCap w (n + m) n 46)) (n + m) (xs ++ news) ∧
        w.grownBy (w.drew.alloc (.cells (xs.toArray ++ news.toArray ++ Builtin.zeroCells z.cells (grownCap w (n + m) n 46 - (n + m))) 46)) row := by
      intro row
      refine ⟨⟨hlen, .inr ⟨w.heap.size, _, _, rfl, hbase, heap_alloc_new w.drew _, hge, hcm, ?_, ?_⟩⟩, ⟨rfl, rfl, rfl, by simp, fun k hk _ => Below.heap_alloc w.drew _ k hk⟩⟩
      · simp only [Array.size_append, List.size_toArray, size_zeroCells, hzs, hx, hl, ← Nat.add_mul]
        congr 1
        omega
      · simp only [Array.toList_append, List.append_assoc]
        rw [← List.append_assoc, ← hlen]
        exact List.take_left
    cases A with
    | none =>
      have hx0 : xs = [] := Classical.byContradiction fun h => by
        obtain ⟨_, _, h', _⟩ := hr h
        cases h'
      subst hx0
      have hn0 : n = 0 := by simp at hx; omega
      subst hn0
      have hr := run_append_nil (P := P) w t ty 46 i z ht hi hz a m c news (by rw [hsize]; exact hl) hnews hm (by omega) (by have hb := hbytes; simp only [Nat.zero_add] at hb; omega)
      have hgr := grown (Value.ownBlock (.slice none 0 0))
      simp only [Nat.zero_add, List.nil_append, Array.empty_append] at hgr ⊢
      exact ⟨_, _, hr, hgr.1, hgr.2, .inr rfl⟩
    | some b =>
      have holds : ∀ j u, xs[j]? = some u → w.cell? (b.add j) = some u := by
        intro j u hu
        obtain ⟨b', o, h, _, hc⟩ := hr (fun e => by subst e; simp at hu)
        injection h with h
        subst h
        have := hc j u hu
        unfold Addr.add
        by_cases hj : j = 0
        · subst hj; simpa using this
        · simpa [hj] using this
      have hr := run_append_grow (P := P) w t ty 46 i z ht hi hz b n n xs (by rw [hsize]; exact hx) holds a m c news (by rw [hsize]; exact hl) hnews (by omega) (by omega) (growslice_fits (by omega) hbytes)
      have hgr := grown (Value.ownBlock (.slice (some b) n n))
      exact ⟨_, _, hr, hgr.1, hgr.2, .inr rfl⟩
theorem wp_append_his {P : Program} {o : Oper} {a : Act} {K : Act → World → Prop} {Q : Exit → Act → World → Prop} (w : World) (s x : Operand) (t : TypeId)
    (ho : o.op = .call { callee := .builtin .append, args := #[s, x], argTypes := #[t, t] })
    (i : TypeInfo) (z : Value) (bytes : Nat) (ht : P.underlying t = some (.slice 46)) (hi : P.info? 46 = some i) (hz : i.zero = some z)
    (hsize : i.size = 3) (hby : i.bytes = bytes) (hzs : z.cells.size = 3) (B : Nat) (v : Value) (n : Nat) (xs : List Value) (hs : a.eval s = v) (hown : HisAt w B v n xs)
    (ad : Addr) (m c : Nat) (news : List Value) (hx : a.eval x = .slice (some ad) m c) (hm : 0 < m) (hl : news.length = m * 3) (hnews : ∀ j u, news[j]? = some u → w.cell? (ad.add j) = some u) (h1 : ∀ u ∈ news, u.oneCell' = true)
    (h63 : n + m ≤ maxLen) (hbytes : (n + m) * bytes ≤ 140737488355328) (hbase : B ≤ w.heap.size)
    (h : ∀ v' w', w'.ownsRow B 46 3 v' (n + m) (xs ++ news) → w.grownBy w' v.ownBlock → (v'.ownBlock = v.ownBlock ∨ v'.ownBlock = some w.heap.size) → K (a.put o.dst v') w') : o.wp P a w K Q := by
  obtain ⟨v', w', hrun, h2, h3, h4⟩ := run_append_his (P := P) w t o.type i z bytes ht hi hz hsize hby hzs B v n xs hown ad m c news hm hl hnews h1 h63 hbytes hbase
  unfold Oper.wp execOp
  simp only [ho, resolve, invoke, builtin, Sem.run_bind, Sem.run_pure, Result.andThen_ok, List.map_toArray, List.map_cons, List.map_nil, hs, hx, hrun]
  exact h v' w' h2 h3 h4
end Go.UtYtkpblieanejmeaa
