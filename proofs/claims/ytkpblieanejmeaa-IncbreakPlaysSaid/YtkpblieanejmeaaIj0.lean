/-
  A document with its history: what an edit and an undo come to, of the program and of the reference.
-/
import Derived.Test.YtkpblieanejmeaaIe1
import Derived.Test.YtkpblieanejmeaaIb4
namespace Go.Proofs.Ytkpblieanejmeaa
open Go.RowKit Go.UtYtkpblieanejmeaa
/-- the document in block D reads X; its history is known -/
def Doc (w : World) (B D : Nat) (uv : Value) (p : PR) (t : BT) (X0 X : List Int) (U : List EdN) (Bf : List (List Int)) : Prop :=
  DocAt w B D uv p t X U ∧ Hist X U Bf ∧ Short X Bf ∧ First X0 X Bf
theorem Doc.after {w w' : World} {B D : Nat} {uv : Value} {p : PR} {t : BT} {X0 X : List Int} {U : List EdN} {Bf : List (List Int)} (h : Doc w B D uv p t X0 X U Bf) (hb : Below w.heap.size w w') : Doc w' B D uv p t X0 X U Bf := ⟨h.1.after hb, h.2⟩
theorem Doc.len {w : World} {B D : Nat} {uv : Value} {p : PR} {t : BT} {X0 X : List Int} {U : List EdN} {Bf : List (List Int)} (h : Doc w B D uv p t X0 X U Bf) (hk : Bf.length ≤ 8) : X.length ≤ 340 := by
  have := h.2.2.1.len
  omega
/-- what an edit comes to -/
def EdOut (p : PR) (t : BT) (x y : Int) (ins X : List Int) (Bf : List (List Int)) (lo hi code : Int) (X' : List Int) (Bf' : List (List Int)) : Prop :=
  (checkB x y X.length = 1 ∧ lo = 0 ∧ hi = 0 ∧ code = 1 ∧ X' = X ∧ Bf' = Bf) ∨
  (checkB x y X.length ≠ 1 ∧ ∃ i d a b : Nat, x = i ∧ y = d ∧ i + d ≤ X.length ∧ lo = a ∧ hi = b ∧ code = 0 ∧ X' = apN i d ins X ∧ Bf' = Bf ++ [X] ∧ IsLo (bndL p t X) (bndL p t X') i a ∧ IsHi (bndL p t X) (bndL p t X') (i + ins.length) X'.length ((ins.length : Int) - (d : Int)) b)
theorem EdOut.uniq {p : PR} {t : BT} {x y : Int} {ins X : List Int} {Bf : List (List Int)} {lo hi code lo' hi' code' : Int} {X' X'' : List Int} {Bf' Bf'' : List (List Int)} (h : EdOut p t x y ins X Bf lo hi code X' Bf') (k : EdOut p t x y ins X Bf lo' hi' code' X'' Bf'') : lo = lo' ∧ hi = hi' ∧ code = code' ∧ X' = X'' ∧ Bf' = Bf'' := by
  rcases h with ⟨h0, rfl, rfl, rfl, rfl, rfl⟩ | ⟨h0, i, d, a, b, rfl, rfl, h1, rfl, rfl, rfl, rfl, rfl, h2, h3⟩ <;> rcases k with ⟨k0, rfl, rfl, rfl, rfl, rfl⟩ | ⟨k0, i', d', a', b', e1, e2, k1, rfl, rfl, rfl, rfl, rfl, k2, k3⟩
  · exact ⟨rfl, rfl, rfl, rfl, rfl⟩
  · exact absurd h0 k0
  · exact absurd k0 h0
  · obtain rfl : i = i' := by omega
    obtain rfl : d = d' := by omega
    rw [h2.uniq k2, h3.uniq k3]
    exact ⟨rfl, rfl, rfl, rfl, rfl⟩
theorem EdOut.len {p : PR} {t : BT} {x y : Int} {ins X : List Int} {Bf : List (List Int)} {lo hi code : Int} {X' : List Int} {Bf' : List (List Int)} (h : EdOut p t x y ins X Bf lo hi code X' Bf') : Bf'.length ≤ Bf.length + 1 := by
  rcases h with ⟨-, -, -, -, -, rfl⟩ | ⟨-, i, d, a, b, -, -, -, -, -, -, -, rfl, -⟩
  · omega
  · simp
/-- the call edits the document -/
def RetEA (w : World) (B D : Nat) (uv : Value) (p : PR) (t : BT) (X0 X : List Int) (Bf : List (List Int)) (x y : Int) (ins : List Int) (e : Ending) (w' : World) : Prop :=
  ∃ (lo hi code : Int) (uv' : Value) (X' : List Int) (U' : List EdN) (Bf' : List (List Int)), e = .returned (.tuple #[.agg #[.int .i64 lo, .int .i64 hi], .int .i64 code]) ∧ Doc w' B D uv' p t X0 X' U' Bf' ∧ (Kept B (Foot D uv) w w' ∧ Grew w (Foot D uv) (Foot D uv')) ∧ EdOut p t x y ins X Bf lo hi code X' Bf'
theorem edit_all (x y : Int) (B D : Nat) (uv : Value) (p : PR) (t : BT) (X0 X : List Int) (U : List EdN) (Bf : List (List Int)) (ins : List Int) (A : Option Addr) (m c : Nat) (w : World) (h : Doc w B D uv p t X0 X U Bf) (hA : Row w B A (ints ins)) (hm : ins.length = m) (hm40 : m ≤ 40) (hc : m ≤ c) (hcm : c ≤ maxLen) (hk : Bf.length ≤ 8)
    (hsp : p.spans.length ≤ 100000) (hsm : t.cls.length ≤ 1000 ∧ t.act.length ≤ 1000) :
    Calls Try.prog 16 #[.pointer (some ⟨D, 0, none⟩), .agg #[.int .i64 x, .int .i64 y, .slice A m c]] w (RetEA w B D uv p t X0 X Bf x y ins) := by
  have hX := h.len hk
  obtain ⟨hd, hh, hs, hf⟩ := h
  have hB := hd.baseLe
  by_cases hch : checkB x y X.length = 1
  · refine (edit_no x y B D uv p t X U A m c X.length w hd rfl hch).mono ?_
    rintro e w' ⟨rfl, hb⟩
    exact ⟨0, 0, 1, uv, X, U, Bf, rfl, ⟨hd.after hb, hh, hs, hf⟩, ⟨Kept.below hB hb, Grew.refl _ _⟩, .inl ⟨hch, rfl, rfl, rfl, rfl, rfl⟩⟩
  · obtain ⟨i, d, rfl, rfl, hid⟩ := checkB_nat (by omega) hch
    have hA' : Row (era w (Foot D uv)) w.heap.size A (ints ins) := (hA.era_below (fun b hb => hd.foot b hb)).more hB
    have hU : U.length ≤ 1000 := by rw [hh.1]; omega
    refine (edit_any B D uv p t X U i d ins A m c w hd hA' hm hc hcm hU hid (by omega) hsp hsm).mono ?_
    rintro e w' ⟨lo, hi, uv', rfl, h1, h2, h3, h4, h5⟩
    exact ⟨lo, hi, 0, uv', _, _, _, rfl, ⟨h3, hh.push hid, hs.push (by have := apN_short (ins := ins) hid (by omega); omega), hf.push⟩, ⟨h4, h5⟩, .inr ⟨hch, i, d, lo, hi, rfl, rfl, hid, rfl, rfl, rfl, rfl, rfl, h1, h2⟩⟩
/-- what an undo comes to -/
def UnOut (X : List Int) (Bf : List (List Int)) (b : Bool) (X' : List Int) (Bf' : List (List Int)) : Prop := (b = false ∧ Bf = [] ∧ X' = X ∧ Bf' = []) ∨ (b = true ∧ Bf = Bf' ++ [X'])
theorem UnOut.uniq {X : List Int} {Bf : List (List Int)} {b b' : Bool} {X' X'' : List Int} {Bf' Bf'' : List (List Int)} (h : UnOut X Bf b X' Bf') (k : UnOut X Bf b' X'' Bf'') : b = b' ∧ X' = X'' ∧ Bf' = Bf'' := by
  rcases h with ⟨rfl, h1, rfl, rfl⟩ | ⟨rfl, h1⟩ <;> rcases k with ⟨rfl, k1, rfl, rfl⟩ | ⟨rfl, k1⟩
  · exact ⟨rfl, rfl, rfl⟩
  · rw [h1] at k1
    simp at k1
  · rw [k1] at h1
    simp at h1
  · rw [h1] at k1
    have := List.append_inj' k1 rfl
    exact ⟨rfl, by simpa using this.2, this.1⟩
theorem UnOut.len {X : List Int} {Bf : List (List Int)} {b : Bool} {X' : List Int} {Bf' : List (List Int)} (h : UnOut X Bf b X' Bf') : Bf'.length ≤ Bf.length := by
  rcases h with ⟨-, h1, -, rfl⟩ | ⟨-, rfl⟩
  · simp
  · simp
def RetUA (w : World) (B D : Nat) (uv : Value) (p : PR) (t : BT) (X0 X : List Int) (Bf : List (List Int)) (e : Ending) (w' : World) : Prop :=
  ∃ (b : Bool) (uv' : Value) (X' : List Int) (U' : List EdN) (Bf' : List (List Int)), e = .returned (.bool b) ∧ Doc w' B D uv' p t X0 X' U' Bf' ∧ (Kept B (Foot D uv) w w' ∧ Grew w (Foot D uv) (Foot D uv')) ∧ UnOut X Bf b X' Bf'
theorem undo_all (B D : Nat) (uv : Value) (p : PR) (t : BT) (X0 X : List Int) (U : List EdN) (Bf : List (List Int)) (w : World) (h : Doc w B D uv p t X0 X U Bf) (hk : Bf.length ≤ 8) (hsp : p.spans.length ≤ 100000) (hsm : t.cls.length ≤ 1000 ∧ t.act.length ≤ 1000) :
    Calls Try.prog 14 #[.pointer (some ⟨D, 0, none⟩)] w (RetUA w B D uv p t X0 X Bf) := by
  have hX := h.len hk
  obtain ⟨hd, hh, hs, hf⟩ := h
  have hB := hd.baseLe
  rcases List.eq_nil_or_concat Bf with rfl | ⟨Bf', Y, rfl⟩
  · obtain rfl : U = [] := hh.empty.2 rfl
    refine (undo_none B D uv p t X w hd).mono ?_
    rintro e w' ⟨rfl, hb⟩
    exact ⟨false, uv, X, [], [], rfl, ⟨hd.after hb, hh, hs, hf⟩, ⟨Kept.below hB hb, Grew.refl _ _⟩, .inl ⟨rfl, rfl, rfl, rfl⟩⟩
  · simp only [List.concat_eq_append] at *
    rcases List.eq_nil_or_concat U with rfl | ⟨U', e, rfl⟩
    · have := hh.1
      simp at this
    · simp only [List.concat_eq_append] at *
      obtain ⟨h1, h2, h3⟩ := hh.pop
      obtain ⟨i, d, ins⟩ := e
      simp only at h1 h2
      have hY : Y.length ≤ 340 := by
        have := hs.pop.len
        simp at hk
        omega
      have hl := apN_len (ins := ins) h1
      rw [h2] at hl
      have hU : U'.length ≤ 1000 := by
        rw [h3.1]
        simp at hk
        omega
      refine (undo_any B D uv p t X U' i d ins w hd hU h1 (by omega) hsp hsm).mono ?_
      rintro e w' ⟨rfl, uv', hd', hk', hg'⟩
      rw [h2] at hd'
      exact ⟨true, uv', Y, U', Bf', rfl, ⟨hd', h3, hs.pop, hf.pop⟩, ⟨hk', hg'⟩, .inr ⟨rfl, rfl⟩⟩
/-- the call edits the reference's document -/
def RetRA (E : Nat → Prop) (w : World) (p : PR) (t : BT) (X : List Int) (Bf : List (List Int)) (x y : Int) (ins : List Int) (e : Ending) (w' : World) : Prop :=
  ∃ (v' : Value) (lo hi code : Int) (X' : List Int) (Bf' : List (List Int)), e = .returned (.tuple #[v', .agg #[.int .i64 lo, .int .i64 hi], .int .i64 code]) ∧ RefAt (era w' E) w'.heap.size v' p t X' Bf' ∧ Below w.heap.size w w' ∧ EdOut p t x y ins X Bf lo hi code X' Bf'
theorem redit_all (E : Nat → Prop) (x y : Int) (v : Value) (p : PR) (t : BT) (X : List Int) (Bf : List (List Int)) (ins : List Int) (A : Option Addr) (m c : Nat) (w : World) (h : RefAt (era w E) w.heap.size v p t X Bf) (hE : ∀ b, E b → b < w.heap.size) (hA : Row w w.heap.size A (ints ins)) (hm : ins.length = m) (hm40 : m ≤ 40) (hX : X.length ≤ 340) (hk : Bf.length ≤ 8)
    (hsp : p.spans.length ≤ 100000) (hsm : t.cls.length ≤ 1000 ∧ t.act.length ≤ 1000) :
    Calls Try.prog 15 #[v, .agg #[.int .i64 x, .int .i64 y, .slice A m c]] w (RetRA E w p t X Bf x y ins) := by
  by_cases hch : checkB x y X.length = 1
  · refine (redit_no x y v p t X Bf A m c X.length w h.of_era rfl hch).mono ?_
    rintro e w' ⟨rfl, hb⟩
    exact ⟨v, 0, 0, 1, X, Bf, rfl, h.kept (Kept.below (Nat.le_refl _) hb) (Grew.refl _ _), hb, .inl ⟨hch, rfl, rfl, rfl, rfl, rfl⟩⟩
  · obtain ⟨i, d, rfl, rfl, hid⟩ := checkB_nat (by omega) hch
    refine (redit_any E v p t X Bf i d ins A m c w h hE hA hm (by omega) hid (by omega) hsp hsm).mono ?_
    rintro e w' ⟨v', lo, hi, rfl, h1, h2, h3, h4⟩
    exact ⟨v', lo, hi, 0, _, _, rfl, h3, h4, .inr ⟨hch, i, d, lo, hi, rfl, rfl, hid, rfl, rfl, rfl, rfl, rfl, h1, h2⟩⟩
def RetRUA (E : Nat → Prop) (w : World) (p : PR) (t : BT) (X : List Int) (Bf : List (List Int)) (e : Ending) (w' : World) : Prop :=
  ∃ (v' : Value) (b : Bool) (X' : List Int) (Bf' : List (List Int)), e = .returned (.tuple #[v', .bool b]) ∧ RefAt (era w' E) w'.heap.size v' p t X' Bf' ∧ Below w.heap.size w w' ∧ UnOut X Bf b X' Bf'
theorem rundo_all (E : Nat → Prop) (v : Value) (p : PR) (t : BT) (X : List Int) (Bf : List (List Int)) (w : World) (h : RefAt (era w E) w.heap.size v p t X Bf) (hk : Bf.length ≤ 8) :
    Calls Try.prog 13 #[v] w (RetRUA E w p t X Bf) := by
  rcases List.eq_nil_or_concat Bf with rfl | ⟨Bf', Y, rfl⟩
  · refine (rundo_no v p t X w h.of_era).mono ?_
    rintro e w' ⟨rfl, hb⟩
    exact ⟨v, false, X, [], rfl, h.kept (Kept.below (Nat.le_refl _) hb) (Grew.refl _ _), hb, .inl ⟨rfl, rfl, rfl, rfl⟩⟩
  · simp only [List.concat_eq_append] at *
    refine (rundo_any E v p t X Y Bf' w h (by simp at hk; omega)).mono ?_
    rintro e w' ⟨v', rfl, h1, h2⟩
    exact ⟨v', true, Y, Bf', rfl, h1, h2, .inr ⟨rfl, rfl⟩⟩
end Go.Proofs.Ytkpblieanejmeaa
