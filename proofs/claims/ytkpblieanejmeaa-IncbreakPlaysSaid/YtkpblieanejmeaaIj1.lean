/-
  As Ij0, the document held apart from the blocks of E; the reference's document in a block.
-/
import Derived.Test.YtkpblieanejmeaaIj0
namespace Go.UtYtkpblieanejmeaa
open Go.RowKit
/-- blocks of E have changed, and E stays apart -/
theorem DocAtE.touch {E : Nat → Prop} {w w' : World} {B D : Nat} {uv : Value} {p : PR} {t : BT} {X : List Int} {U : List EdN} (h : DocAtE E w B D uv p t X U) (hk : ∀ b, ¬ E b → w'.heap[b]? = w.heap[b]?) (hs : w'.heap.size = w.heap.size) (hE : ∀ b, E b → ¬ Foot D uv b) : DocAtE E w' B D uv p t X U := by
  obtain ⟨x, y, At, cX, Ac, cC, vs, h1, h2, ⟨h3, h4⟩, h5, h6, h7, h8⟩ := h
  have hk' : ∀ b, b < w.heap.size → ¬ FootE E D uv b → w'.heap[b]? = w.heap[b]? := fun b _ h => hk b (fun h' => h (.inr h'))
  have he : ∀ b, b < w.heap.size → FootE E D uv b → FootE E D uv b := fun _ _ h => h
  unfold DocAtE
  rw [hs]
  exact ⟨x, y, At, cX, Ac, cC, vs, (hk D (fun h => hE D h (.inl rfl))).trans h1, h2, ⟨h3.keep (by omega) (fun g hg _ => hk g (fun h => hE g h (.inr hg))), h4.era_keep hk' he⟩, h5.era_keep hk' he, h6.era_keep hk' he, ⟨h7.1.era_keep hk' he, h7.2⟩, ⟨h8.1.era_keep hk' he, h8.2⟩⟩
theorem RefAt.touch {F : Nat → Prop} {w w' : World} {v : Value} {p : PR} {t : BT} {X : List Int} {Bf : List (List Int)} (h : RefAt (era w F) w.heap.size v p t X Bf) (hk : ∀ b, ¬ F b → w'.heap[b]? = w.heap[b]?) (hs : w'.heap.size = w.heap.size) : RefAt (era w' F) w'.heap.size v p t X Bf := by
  rw [hs]
  exact h.era_keep (fun b _ hb => hk b hb) (fun _ _ h => h)
end Go.UtYtkpblieanejmeaa
namespace Go.Proofs.Ytkpblieanejmeaa
open Go.RowKit Go.UtYtkpblieanejmeaa
def DocE (E : Nat → Prop) (w : World) (B D : Nat) (uv : Value) (p : PR) (t : BT) (X : List Int) (U : List EdN) (Bf : List (List Int)) : Prop :=
  DocAtE E w B D uv p t X U ∧ Hist X U Bf ∧ Short X Bf
theorem DocE.after {E : Nat → Prop} {w w' : World} {B D : Nat} {uv : Value} {p : PR} {t : BT} {X : List Int} {U : List EdN} {Bf : List (List Int)} (h : DocE E w B D uv p t X U Bf) (hb : Below w.heap.size w w') : DocE E w' B D uv p t X U Bf := ⟨h.1.after hb, h.2⟩
theorem DocE.len {E : Nat → Prop} {w : World} {B D : Nat} {uv : Value} {p : PR} {t : BT} {X : List Int} {U : List EdN} {Bf : List (List Int)} (h : DocE E w B D uv p t X U Bf) (hk : Bf.length ≤ 8) : X.length ≤ 340 := by
  have := h.2.2.len
  omega
def RetEAE (E : Nat → Prop) (w : World) (B D : Nat) (uv : Value) (p : PR) (t : BT) (X : List Int) (Bf : List (List Int)) (x y : Int) (ins : List Int) (e : Ending) (w' : World) : Prop :=
  ∃ (lo hi code : Int) (uv' : Value) (X' : List Int) (U' : List EdN) (Bf' : List (List Int)), e = .returned (.tuple #[.agg #[.int .i64 lo, .int .i64 hi], .int .i64 code]) ∧ DocE E w' B D uv' p t X' U' Bf' ∧ (Kept B (Foot D uv) w w' ∧ Grew w (Foot D uv) (Foot D uv')) ∧ EdOut p t x y ins X Bf lo hi code X' Bf'
theorem edit_allE (E : Nat → Prop) (x y : Int) (B D : Nat) (uv : Value) (p : PR) (t : BT) (X : List Int) (U : List EdN) (Bf : List (List Int)) (ins : List Int) (A : Option Addr) (m c : Nat) (w : World) (h : DocE E w B D uv p t X U Bf) (hE : ∀ b, E b → b < w.heap.size) (hA : Row w B A (ints ins)) (hm : ins.length = m) (hm40 : m ≤ 40) (hc : m ≤ c) (hcm : c ≤ maxLen) (hk : Bf.length ≤ 8)
    (hsp : p.spans.length ≤ 100000) (hsm : t.cls.length ≤ 1000 ∧ t.act.length ≤ 1000) :
    Calls Try.prog 16 #[.pointer (some ⟨D, 0, none⟩), .agg #[.int .i64 x, .int .i64 y, .slice A m c]] w (RetEAE E w B D uv p t X Bf x y ins) := by
  have hX := h.len hk
  obtain ⟨hd, hh, hs⟩ := h
  have hB := hd.doc.baseLe
  by_cases hch : checkB x y X.length = 1
  · refine (edit_no x y B D uv p t X U A m c X.length w hd.doc rfl hch).mono ?_
    rintro e w' ⟨rfl, hb⟩
    exact ⟨0, 0, 1, uv, X, U, Bf, rfl, ⟨hd.after hb, hh, hs⟩, ⟨Kept.below hB hb, Grew.refl _ _⟩, .inl ⟨hch, rfl, rfl, rfl, rfl, rfl⟩⟩
  · obtain ⟨i, d, rfl, rfl, hid⟩ := checkB_nat (by omega) hch
    have hA' : Row (era w (Foot D uv)) w.heap.size A (ints ins) := (hA.era_below (fun b hb => hd.doc.foot b hb)).more hB
    have hU : U.length ≤ 1000 := by rw [hh.1]; omega
    refine (edit_anyE E B D uv p t X U i d ins A m c w hd hE hA' hm hc hcm hU hid (by omega) hsp hsm).mono ?_
    rintro e w' ⟨lo, hi, uv', rfl, h1, h2, h3, h4, h5⟩
    exact ⟨lo, hi, 0, uv', _, _, _, rfl, ⟨h3, hh.push hid, hs.push (by have := apN_short (ins := ins) hid (by omega); omega)⟩, ⟨h4, h5⟩, .inr ⟨hch, i, d, lo, hi, rfl, rfl, hid, rfl, rfl, rfl, rfl, rfl, h1, h2⟩⟩
def RetUAE (E : Nat → Prop) (w : World) (B D : Nat) (uv : Value) (p : PR) (t : BT) (X : List Int) (Bf : List (List Int)) (e : Ending) (w' : World) : Prop :=
  ∃ (b : Bool) (uv' : Value) (X' : List Int) (U' : List EdN) (Bf' : List (List Int)), e = .returned (.bool b) ∧ DocE E w' B D uv' p t X' U' Bf' ∧ (Kept B (Foot D uv) w w' ∧ Grew w (Foot D uv) (Foot D uv')) ∧ UnOut X Bf b X' Bf'
theorem undo_allE (E : Nat → Prop) (B D : Nat) (uv : Value) (p : PR) (t : BT) (X : List Int) (U : List EdN) (Bf : List (List Int)) (w : World) (h : DocE E w B D uv p t X U Bf) (hE : ∀ b, E b → b < w.heap.size) (hk : Bf.length ≤ 8) (hsp : p.spans.length ≤ 100000) (hsm : t.cls.length ≤ 1000 ∧ t.act.length ≤ 1000) :
    Calls Try.prog 14 #[.pointer (some ⟨D, 0, none⟩)] w (RetUAE E w B D uv p t X Bf) := by
  have hX := h.len hk
  obtain ⟨hd, hh, hs⟩ := h
  have hB := hd.doc.baseLe
  rcases List.eq_nil_or_concat Bf with rfl | ⟨Bf', Y, rfl⟩
  · obtain rfl : U = [] := hh.empty.2 rfl
    refine (undo_none B D uv p t X w hd.doc).mono ?_
    rintro e w' ⟨rfl, hb⟩
    exact ⟨false, uv, X, [], [], rfl, ⟨hd.after hb, hh, hs⟩, ⟨Kept.below hB hb, Grew.refl _ _⟩, .inl ⟨rfl, rfl, rfl, rfl⟩⟩
  · simp only [List.concat_eq_append] at *
    rcases List.eq_nil_or_concat U with rfl | ⟨U', e, rfl⟩
    · have := hh.1
      simp at this
    · simp only [List.concat_eq_append] at *
      obtain ⟨h1, h2, h3⟩ := hh.pop
      obtain ⟨i, d, ins⟩ := e
      simp only at h1 h2
      have hY : Y.length ≤ 340 := by
        have := hs.pop.len
        simp at hk
        omega
      have hl := apN_len (ins := ins) h1
      rw [h2] at hl
      have hU : U'.length ≤ 1000 := by
        rw [h3.1]
        simp at hk
        omega
      refine (undo_anyE E B D uv p t X U' i d ins w hd hE hU h1 (by omega) hsp hsm).mono ?_
      rintro e w' ⟨rfl, uv', hd', hk', hg'⟩
      rw [h2] at hd'
      exact ⟨true, uv', Y, U', Bf', rfl, ⟨hd', h3, hs.pop⟩, ⟨hk', hg'⟩, .inr ⟨rfl, rfl⟩⟩
/-- the reference's document in block gx -/
def RefBox (w : World) (F : Nat → Prop) (gx : Nat) (p : PR) (t : BT) (X : List Int) (Bf : List (List Int)) : Prop :=
  ∃ v0 v1 v2 v3 v4 v5 v6 v7 v8 v9 : Value, Blk w gx 42 #[v0, v1, v2, v3, v4, v5, v6, v7, v8, v9] ∧ RefAt (era w F) w.heap.size (.agg #[v0, v1, v2, v3, v4, v5, v6, v7, v8, v9]) p t X Bf
theorem RefAt.ten {w : World} {B : Nat} {v : Value} {p : PR} {t : BT} {X : List Int} {Bf : List (List Int)} (h : RefAt w B v p t X Bf) : ∃ v0 v1 v2 v3 v4 v5 v6 v7 v8 v9 : Value, v = .agg #[v0, v1, v2, v3, v4, v5, v6, v7, v8, v9] := by
  obtain ⟨x, y, At, cX, Ab, cB, rfl, -⟩ := h
  exact ⟨_, _, _, _, _, _, _, _, _, _, rfl⟩
theorem RefBox.kept {w w' : World} {B : Nat} {F F' : Nat → Prop} {gx : Nat} {p : PR} {t : BT} {X : List Int} {Bf : List (List Int)} (h : RefBox w F gx p t X Bf) (hk : Kept B F w w') (hg : Grew w F F') (hb : w'.heap[gx]? = w.heap[gx]?) : RefBox w' F' gx p t X Bf := by
  obtain ⟨v0, v1, v2, v3, v4, v5, v6, v7, v8, v9, h1, h2⟩ := h
  exact ⟨v0, v1, v2, v3, v4, v5, v6, v7, v8, v9, hb.trans h1, h2.kept hk hg⟩
end Go.Proofs.Ytkpblieanejmeaa
