/-
  cpset.combine: walk.
-/
import Derived.Test.YtjohoohdjlajcaaProg
import Derived.Test.YtjohoohdjlajcaaBase
import Derived.Test.YtjohoohdjlajcaaApp
import Derived.Test.YtjohoohdjlajcaaCs7
import Derived.Test.YtjohoohdjlajcaaTree
import Derived.Laws.OwnMore
import Derived.WalkKit
import Derived.Deep.QuietTactic
import Derived.BigQuiet
import Derived.Deep.DeepCutAuto
import Derived.KernelRfl
import Derived.Outline
import Derived.IntWalk
namespace Go.Proofs.Ytjohoohdjlajcaa
open Go.RowKit Go.UtYtjohoohdjlajcaa
theorem row_one {w w' : World} {g t B : Nat} {A : Option Addr} {v : Value} {r : List Rg} (hb : Blk w g t #[v]) (h : w.grownBy w' (some g)) (hr : Row w B A (rgs r)) (hB : B ≤ w.heap.size) : Row w' B A (rgs r) := by
  intro hv
  obtain ⟨b, o, hA, hlt, hc⟩ := hr hv
  have hne : b ≠ g := by
    rintro rfl
    have h1 : 1 < (rgs r).length := by
      rcases r with _ | ⟨a, r⟩
      · exact absurd rfl hv
      · rw [rgs_len]; simp; omega
    have := hc 1 _ (List.getElem?_eq_getElem h1)
    rw [hb.cell] at this
    simp at this
  exact ⟨b, o, hA, hlt, fun k v hk => (grown_cell h (p := ⟨b, o + k, none⟩) (by simp; omega) hne).trans (hc k v hk)⟩
theorem row_new0 (w : World) (t : TypeId) (x y : Value) : Row (w.alloc (.cells #[x, y] t)) (w.heap.size + 1) (some ⟨w.heap.size, 0, none⟩) [x, y] := by
  have := (Blk.new w t #[x, y]).row rfl
  simpa using this
theorem CurAt.other {w w' : World} {N gi gl j g t : Nat} {r : List Rg} {v : Value} (h : CurAt w N gi gl r j) (hb : Blk w g t #[v]) (hg : w.grownBy w' (some g)) (h1 : g ≠ gi) (h2 : g ≠ gl) : CurAt w' N gi gl r j := by
  obtain ⟨A, cl, q1, q2⟩ := h.rows
  exact ⟨h.new1, h.new2, h.lt, blk_grown h.idx hg (fun e => h1 (Option.some.inj e).symm), ⟨A, cl, blk_grown q1 hg (fun e => h2 (Option.some.inj e).symm), row_one hb hg q2 (Nat.le_of_lt q1.lt)⟩, h.can, h.le⟩
theorem CurAt.below {w w' : World} {N gi gl j M : Nat} {r : List Rg} (h : CurAt w N gi gl r j) (hb : Below M w w') (hM : gi < M) : CurAt w' N gi gl r j := by
  obtain ⟨A, cl, q1, q2⟩ := h.rows
  have := h.lt
  exact ⟨h.new1, h.new2, h.lt, h.idx.below hb hM, ⟨A, cl, q1.below hb (by omega), q2.below (hb.mono (by omega))⟩, h.can, h.le⟩
theorem CurAt.mono {w : World} {N N' gi gl j : Nat} {r : List Rg} (h : CurAt w N gi gl r j) (hN : N' ≤ N) : CurAt w N' gi gl r j := ⟨Nat.le_trans hN h.new1, Nat.le_trans hN h.new2, h.lt, h.idx, h.rows, h.can, h.le⟩
def LowC (r : List Rg) (j : Nat) (x : Int) : Prop := ∀ (i : Nat) (a : Rg), i < j → r[i]? = some a → a.2 < x
/-- What has been collected up to lo: the numbers below lo that K keeps. -/
structure Coll (K : Int → Prop) (ps : List Rg) (lo : Int) : Prop where
  ge : 0 ≤ lo
  le : lo ≤ 1114112
  len : (ps.length : Int) ≤ lo
  top : ∀ r ∈ ps, 0 ≤ r.1 ∧ r.1 ≤ r.2 ∧ r.2 < lo
  mem : ∀ x, 0 ≤ x → x < lo → (memR ps x ↔ K x)
theorem Coll.skip {K : Int → Prop} {ps : List Rg} {lo h : Int} (c : Coll K ps lo) (h1 : lo ≤ h) (h2 : h ≤ 1114111) (hk : ∀ x, lo ≤ x → x ≤ h → ¬ K x) : Coll K ps (h + 1) := by
  refine ⟨by have := c.ge; omega, by omega, by have := c.len; omega, fun r hr => by have := c.top r hr; omega, fun x hx hx' => ?_⟩
  by_cases hl : x < lo
  · exact c.mem x hx hl
  · refine ⟨fun ⟨r, hr, h⟩ => by have := c.top r hr; omega, fun h => absurd h (hk x (by omega) (by omega))⟩
theorem Coll.add {K : Int → Prop} {ps : List Rg} {lo h : Int} (c : Coll K ps lo) (h1 : lo ≤ h) (h2 : h ≤ 1114111) (hk : ∀ x, lo ≤ x → x ≤ h → K x) : Coll K (ps ++ [(lo, h)]) (h + 1) := by
  refine ⟨by have := c.ge; omega, by omega, by have := c.len; simp; omega, fun r hr => ?_, fun x hx hx' => ?_⟩
  · rcases List.mem_append.1 hr with hr | hr
    · have := c.top r hr; omega
    · have := c.ge
      simp at hr
      subst hr
      exact ⟨this, h1, by simp; omega⟩
  · rw [memR_append]
    by_cases hl : x < lo
    · rw [c.mem x hx hl]
      refine ⟨fun h => h.resolve_right ?_, Or.inl⟩
      rintro ⟨r, hr, h⟩
      simp at hr
      subst hr
      simp at h
      omega
    · refine ⟨fun _ => hk x (by omega) (by omega), fun _ => Or.inr ⟨(lo, h), by simp, by simp; omega⟩⟩
theorem Coll.has {K : Int → Prop} {ps : List Rg} {lo : Int} (c : Coll K ps lo) (h : 1114111 < lo) (x : Int) : hasP ps x ↔ codeP x ∧ K x :=
  ⟨fun ⟨h1, h2⟩ => ⟨h1, (c.mem x h1.1 (by have := h1.2; omega)).1 h2⟩, fun ⟨h1, h2⟩ => ⟨h1, (c.mem x h1.1 (by have := h1.2; omega)).2 h2⟩⟩
theorem Coll.nil (K : Int → Prop) : Coll K [] 0 := ⟨by omega, by omega, by simp, fun r hr => by simp at hr, fun x h1 h2 => by omega⟩
end Go.Proofs.Ytjohoohdjlajcaa
