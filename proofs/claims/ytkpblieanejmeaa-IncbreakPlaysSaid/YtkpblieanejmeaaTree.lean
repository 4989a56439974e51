/-
  A region that draws its order, walked along a tree: operations that only read are taken as soon as they are ready; where several others may come up, each is walked. One condition S on the world is kept by every step.
-/
import Derived.OrdersHeld
import Derived.Deep.RegionHeld
import Derived.Below
namespace Go.UtYtkpblieanejmeaa
open Go.RowKit
inductive Tr where
  | done : Tr
  | float (i : Nat) (t : Tr) : Tr
  | one (i : Nat) (t : Tr) : Tr
  | two (i : Nat) (t : Tr) (j : Nat) (u : Tr) : Tr
  | three (i : Nat) (t : Tr) (j : Nat) (u : Tr) (k : Nat) (v : Tr) : Tr
  | more (t : Tr) : Tr
def trGo (ops : Array Oper) : Tr → Nat → Array Bool → Bool
  | .done, _, l => (Region.ready .any ops l).isEmpty
  | .float i t, n, l => decide (0 < n) && ((Region.ready .any ops l).contains i && Region.free .any ops l i) && trGo ops t (n - 1) (l.setIfInBounds i true)
  | .one i t, n, l => decide (0 < n) && (Region.ready .any ops l == [i]) && trGo ops t (n - 1) (l.setIfInBounds i true)
  | .two i t j u, n, l => decide (0 < n) && (Region.ready .any ops l == [i, j]) && trGo ops t (n - 1) (l.setIfInBounds i true) && trGo ops u (n - 1) (l.setIfInBounds j true)
  | .three i t j u k v, n, l => decide (0 < n) && (Region.ready .any ops l == [i, j, k]) && trGo ops t (n - 1) (l.setIfInBounds i true) && trGo ops u (n - 1) (l.setIfInBounds j true) && trGo ops v (n - 1) (l.setIfInBounds k true)
  | .more t, n, l => trGo ops t n l
def trOk (ops : Array Oper) (t : Tr) : Bool := Region.noSelect ops && trGo ops t ops.size (Array.replicate ops.size false)
section
variable {P : Program} {ops : Array Oper} {Q : Exit → Act → World → Prop} {S : World → Prop}
def stepTr (P : Program) (ops : Array Oper) (Q : Exit → Act → World → Prop) (S : World → Prop) (i : Nat) (K : Act → World → Prop) (a : Act) (w : World) : Prop :=
  ∃ o, ops[i]? = some o ∧ ((Region.wanted o (yielded ops a.tmps) = true ∧ o.wp P a w (fun a' w' => S w' ∧ K a' w') Q) ∨ (Region.wanted o (yielded ops a.tmps) = false ∧ K (a.put o.dst undef) w))
/-- .more: from here on a stronger condition is kept -/
def wpTs (P : Program) (ops : Array Oper) (Q : Exit → Act → World → Prop) : Tr → (World → Prop) → Act → World → Prop
  | .done, _, a, w => Q .normal a w
  | .float i t, S, a, w => ∃ o, ops[i]? = some o ∧ ((Region.wanted o (yielded ops a.tmps) = true ∧ ∃ v, (∀ w', S w' → (execOp a.eval o).run P w' = .ok (.value v) w') ∧ wpTs P ops Q t S (a.put o.dst v) w) ∨
      (Region.wanted o (yielded ops a.tmps) = false ∧ wpTs P ops Q t S (a.put o.dst undef) w))
  | .one i t, S, a, w => stepTr P ops Q S i (wpTs P ops Q t S) a w
  | .two i t j u, S, a, w => stepTr P ops Q S i (wpTs P ops Q t S) a w ∧ stepTr P ops Q S j (wpTs P ops Q u S) a w
  | .three i t j u k v, S, a, w => stepTr P ops Q S i (wpTs P ops Q t S) a w ∧ stepTr P ops Q S j (wpTs P ops Q u S) a w ∧ stepTr P ops Q S k (wpTs P ops Q v S) a w
  | .more t, S, a, w => ∃ S' : World → Prop, (∀ w', S' w' → S w') ∧ S' w ∧ wpTs P ops Q t S' a w
def wpTr (P : Program) (ops : Array Oper) (Q : Exit → Act → World → Prop) (S : World → Prop) (t : Tr) : Act → World → Prop := wpTs P ops Q t S
theorem wpAnyH_mono {P : Program} {ops : Array Oper} {Q : Exit → Act → World → Prop} {S S' : World → Prop} (hS : ∀ w, S' w → S w) : ∀ (n : Nat) (l : Array Bool) (a : Act) (w : World), wpAnyH P .any ops Q S' n l a w → wpAnyH P .any ops Q S n l a w
  | 0, _, _, _, h => h
  | n + 1, _, _, _, h => ⟨h.1, fun i hi => wpOp_mono (fun a' w' h' => ⟨hS _ h'.1, wpAnyH_mono hS n _ a' w' h'.2⟩) (h.2 i hi)⟩
theorem stepTr_op {i n : Nat} {l : Array Bool} {K : Act → World → Prop} {a : Act} {w : World} (hS : S w)
    (hK : ∀ a' w', S w' → K a' w' → wpAnyH P .any ops Q S n (l.setIfInBounds i true) a' w') (h : stepTr P ops Q S i K a w) :
    wpOp P ops Q i (fun a' w' => S w' ∧ wpAnyH P .any ops Q S n (l.setIfInBounds i true) a' w') a w := by
  obtain ⟨o, ho, h⟩ := h
  unfold wpOp
  simp only [ho]
  rcases h with ⟨hw, h⟩ | ⟨hw, h⟩
  · rw [if_pos hw]
    exact .inl (Oper.wp_mono (fun a' w' h' => ⟨h'.1, hK _ _ h'.1 h'.2⟩) h)
  · rw [if_neg (by rw [hw]; simp)]
    exact ⟨hS, hK _ _ hS h⟩
theorem wpTs_sound (hs : Region.noSelect ops = true) (hQ : ∀ c a (d : Option Tmp) v w, Q (.panic c) (a.put d v) w → Q (.panic c) a w) : ∀ (t : Tr) (S : World → Prop) (n : Nat) (l : Array Bool) (a : Act) (w : World),
    trGo ops t n l = true → S w → wpTs P ops Q t S a w → wpAnyH P .any ops Q S n l a w
  | .done, S, n, l, a, w, hc, _, h => wpAnyH_done (by simpa [trGo] using hc) h n
  | .float i t, S, n, l, a, w, hc, hS, h => by
    simp only [trGo, Bool.and_eq_true, decide_eq_true_eq] at hc
    obtain ⟨⟨hn, hr, hf⟩, hc⟩ := hc
    obtain ⟨m, rfl⟩ : ∃ m, n = m + 1 := ⟨n - 1, by omega⟩
    obtain ⟨o, ho, h⟩ := h
    rcases h with ⟨hw, v, hv, h⟩ | ⟨hw, h⟩
    · exact wpAnyH_take ho hs hf hr (fun c a w hq => hQ c a _ _ w hq) (.inl ⟨hw, hv⟩) hS (wpTs_sound hs hQ t S m _ _ _ hc hS h)
    · exact wpAnyH_take ho hs hf hr (fun c a w hq => hQ c a _ _ w hq) (.inr ⟨hw, rfl⟩) hS (wpTs_sound hs hQ t S m _ _ _ hc hS h)
  | .one i t, S, n, l, a, w, hc, hS, h => by
    simp only [trGo, Bool.and_eq_true, decide_eq_true_eq, beq_iff_eq] at hc
    obtain ⟨⟨hn, hr⟩, hc⟩ := hc
    obtain ⟨m, rfl⟩ : ∃ m, n = m + 1 := ⟨n - 1, by omega⟩
    refine wpAnyH_all hr (by simp) fun j hj => ?_
    obtain rfl : j = i := by simpa using hj
    exact stepTr_op hS (fun a' w' hS' hK => wpTs_sound hs hQ t S m _ a' w' hc hS' hK) h
  | .two i t j u, S, n, l, a, w, hc, hS, h => by
    simp only [trGo, Bool.and_eq_true, decide_eq_true_eq, beq_iff_eq] at hc
    obtain ⟨⟨⟨hn, hr⟩, hc⟩, hc2⟩ := hc
    obtain ⟨m, rfl⟩ : ∃ m, n = m + 1 := ⟨n - 1, by omega⟩
    refine wpAnyH_all hr (by simp) fun q hq => ?_
    simp only [List.mem_cons, List.not_mem_nil, or_false] at hq
    rcases hq with rfl | rfl
    · exact stepTr_op hS (fun a' w' hS' hK => wpTs_sound hs hQ t S m _ a' w' hc hS' hK) h.1
    · exact stepTr_op hS (fun a' w' hS' hK => wpTs_sound hs hQ u S m _ a' w' hc2 hS' hK) h.2
  | .three i t j u k v, S, n, l, a, w, hc, hS, h => by
    simp only [trGo, Bool.and_eq_true, decide_eq_true_eq, beq_iff_eq] at hc
    obtain ⟨⟨⟨⟨hn, hr⟩, hc⟩, hc2⟩, hc3⟩ := hc
    obtain ⟨m, rfl⟩ : ∃ m, n = m + 1 := ⟨n - 1, by omega⟩
    refine wpAnyH_all hr (by simp) fun q hq => ?_
    simp only [List.mem_cons, List.not_mem_nil, or_false] at hq
    rcases hq with rfl | rfl | rfl
    · exact stepTr_op hS (fun a' w' hS' hK => wpTs_sound hs hQ t S m _ a' w' hc hS' hK) h.1
    · exact stepTr_op hS (fun a' w' hS' hK => wpTs_sound hs hQ u S m _ a' w' hc2 hS' hK) h.2.1
    · exact stepTr_op hS (fun a' w' hS' hK => wpTs_sound hs hQ v S m _ a' w' hc3 hS' hK) h.2.2
  | .more t, S, n, l, a, w, hc, hS, h => by
    obtain ⟨S', h1, h2, h3⟩ := h
    exact wpAnyH_mono h1 n l a w (wpTs_sound hs hQ t S' n l a w hc h2 h3)
theorem wpTr_sound (hs : Region.noSelect ops = true) (hQ : ∀ c a (d : Option Tmp) v w, Q (.panic c) (a.put d v) w → Q (.panic c) a w) (t : Tr) (n : Nat) (l : Array Bool) (a : Act) (w : World) (hc : trGo ops t n l = true) (hS : S w) (h : wpTr P ops Q S t a w) : wpAnyH P .any ops Q S n l a w :=
  wpTs_sound hs hQ t S n l a w hc hS h
/-- THE REGION, along the tree t. -/
theorem wp_region_tree {id : Nat} {a : Act} {w : World} (S : World → Prop) (t : Tr) (hm : P.follows .mixedOrders = true) (hc : trOk ops t = true)
    (hQ : ∀ c a (d : Option Tmp) v w, Q (.panic c) (a.put d v) w → Q (.panic c) a w) (hS : S w.drew) (h : wpTr P ops Q S t a w.drew) : (Code.region id ops true).wp P Q a w := by
  rw [trOk, Bool.and_eq_true] at hc
  exact wp_region_held (S := S) hm (wpTr_sound hc.1 hQ t _ _ a w.drew hc.2 hS h)
theorem wpTr_float {i : Nat} {t : Tr} {a : Act} {w : World} {o : Oper} {v : Value} (ho : ops[i]? = some o) (hw : Region.wanted o (yielded ops a.tmps) = true)
    (hv : ∀ w', S w' → (execOp a.eval o).run P w' = .ok (.value v) w') (h : wpTr P ops Q S t (a.put o.dst v) w) : wpTr P ops Q S (.float i t) a w :=
  ⟨o, ho, .inl ⟨hw, v, hv, h⟩⟩
theorem wpTr_fskip {i : Nat} {t : Tr} {a : Act} {w : World} {o : Oper} (ho : ops[i]? = some o) (hw : Region.wanted o (yielded ops a.tmps) = false)
    (h : wpTr P ops Q S t (a.put o.dst undef) w) : wpTr P ops Q S (.float i t) a w :=
  ⟨o, ho, .inr ⟨hw, h⟩⟩
theorem wpTr_skip {i : Nat} {t : Tr} {a : Act} {w : World} {o : Oper} (ho : ops[i]? = some o) (hw : Region.wanted o (yielded ops a.tmps) = false)
    (h : wpTr P ops Q S t (a.put o.dst undef) w) : stepTr P ops Q S i (wpTr P ops Q S t) a w :=
  ⟨o, ho, .inr ⟨hw, h⟩⟩
/-- A step that changes the world: what follows is kept behind a letter. -/
theorem stepTr_K {i : Nat} {t : Tr} {a : Act} {w : World} {o : Oper} (ho : ops[i]? = some o) (hw : Region.wanted o (yielded ops a.tmps) = true)
    (h : ∀ K : Act → World → Prop, Shut (∀ a' w', S w' → wpTr P ops Q S t a' w' → K a' w') → o.wp P a w K Q) : stepTr P ops Q S i (wpTr P ops Q S t) a w :=
  ⟨o, ho, .inl ⟨hw, h _ (fun _ _ hb hs => ⟨hb, hs⟩)⟩⟩
theorem wpTr_one {i : Nat} {t : Tr} {a : Act} {w : World} (h : stepTr P ops Q S i (wpTr P ops Q S t) a w) : wpTr P ops Q S (.one i t) a w := h
theorem wpTr_two {i j : Nat} {t u : Tr} {a : Act} {w : World} (h : stepTr P ops Q S i (wpTr P ops Q S t) a w) (h' : stepTr P ops Q S j (wpTr P ops Q S u) a w) : wpTr P ops Q S (.two i t j u) a w := ⟨h, h'⟩
theorem wpTr_three {i j k : Nat} {t u v : Tr} {a : Act} {w : World} (h : stepTr P ops Q S i (wpTr P ops Q S t) a w) (h' : stepTr P ops Q S j (wpTr P ops Q S u) a w) (h'' : stepTr P ops Q S k (wpTr P ops Q S v) a w) : wpTr P ops Q S (.three i t j u k v) a w := ⟨h, h', h''⟩
theorem wpTr_more {t : Tr} {a : Act} {w : World} (S' : World → Prop) (h1 : ∀ w', S' w' → S w') (h2 : S' w) (h : wpTr P ops Q S' t a w) : wpTr P ops Q S (.more t) a w := ⟨S', h1, h2, h⟩
theorem wpTr_done {a : Act} {w : World} (h : Q .normal a w) : wpTr P ops Q S .done a w := h
end
end Go.UtYtkpblieanejmeaa
