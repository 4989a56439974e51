/-
  segment.Parts, ref30.Between, ref30.Parts; Around of both (printed by bs2.py).
-/
import Derived.Test.YtkpblieanejmeaaBs1
import Derived.Test.YtkpblieanejmeaaBq5
namespace Go.UtYtkpblieanejmeaa
/-- the parts of a text -/
noncomputable def ptsL (p : PR) (t : BT) (text : List Int) : List (Int × Int) := prtL (acV p t text)
theorem acV_full {p : PR} {t : BT} {text : List Int} (h : validT t) : (acV p t text).length = text.length + 1 := by
  unfold acV
  rw [if_pos h]
  simp [actsL, clsL]
theorem pts_btw {p : PR} {t : BT} {text : List Int} (h : validT t) : btwL (bndL p t text) (text.length : Int) = ptsL p t text := by
  unfold ptsL
  rw [prtL_btw (acV_full h), bnd_eq]
theorem pts_none {p : PR} {t : BT} {text : List Int} (h : ¬ validT t) : ptsL p t text = [] := by
  unfold ptsL acV
  rw [if_neg h]
  rfl
def arV (l : List (Int × Int)) (a : Int) : Int × Int × Bool := match arL l a with | some r => (r.1, r.2, true) | none => (0, 0, false)
end Go.UtYtkpblieanejmeaa
namespace Go.Proofs.Ytkpblieanejmeaa
open Go.RowKit Go.UtYtkpblieanejmeaa
theorem pts_len (p : PR) (t : BT) (text : List Int) : (ptsL p t text).length ≤ text.length + 1 := by
  unfold ptsL prtL
  exact Nat.le_trans (prtN_len _ _ _) (acV_len p t text)
theorem Row.at_rng {w : World} {B : Nat} {A : Option Addr} {l : List (Int × Int)} (h : Row w B A (rng l)) {k : Nat} (hk : k < l.length) : ∃ b o x y, A = some ⟨b, o, none⟩ ∧ b < B ∧ Hid (l[k]? = some (x, y)) ∧ w.cell? ⟨b, o + k * 2, none⟩ = some (.int .i64 x) ∧ w.cell? ⟨b, o + k * 2 + 1, none⟩ = some (.int .i64 y) := by
  obtain ⟨b, o, e, hb, hc⟩ := h (fun e => by have := rng_len l; rw [e] at this; simp at this; omega)
  have hg := List.getElem?_eq_getElem hk
  have hget : ∀ (l : List (Int × Int)) (k : Nat) (s : Int × Int), l[k]? = some s → (rng l)[k * 2]? = some (.int .i64 s.1) ∧ (rng l)[k * 2 + 1]? = some (.int .i64 s.2) := by
    intro l
    induction l with
    | nil => intro k s h; simp at h
    | cons z l ih =>
      intro k s h
      cases k with
      | zero =>
        simp at h
        subst h
        simp [rng]
      | succ k =>
        have := ih k s (by simpa using h)
        rw [show (k + 1) * 2 = k * 2 + 2 by omega, show k * 2 + 2 + 1 = k * 2 + 1 + 2 by omega]
        simpa [rng] using this
  obtain ⟨g1, g2⟩ := hget l k l[k] hg
  exact ⟨b, o, l[k].1, l[k].2, e, hb, hg, hc _ _ g1, by rw [Nat.add_assoc]; exact hc _ _ g2⟩
end Go.Proofs.Ytkpblieanejmeaa
