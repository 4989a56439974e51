/-
  A region that draws its order, walked along a tree (as in Tree), with one operation, st, the last one, behind which the condition S need not hold: the region's store. Every operation that is taken as soon as it is ready must be one that st waits for.
-/
import Derived.Test.YtkpblieanejmeaaTree
namespace Go.UtYtkpblieanejmeaa
open Go.RowKit
section
variable {P : Program} {ops : Array Oper} {Q : Exit → Act → World → Prop} {md : Region.Mode} {S : World → Prop} {st : Nat}
def wpAnyL (P : Program) (md : Region.Mode) (ops : Array Oper) (Q : Exit → Act → World → Prop) (S : World → Prop) (st : Nat) : Nat → Array Bool → Act → World → Prop
  | 0, l, a, w => Region.ready md ops l = [] ∧ Q .normal a w
  | n + 1, l, a, w => (Region.ready md ops l = [] → Q .normal a w) ∧ ∀ i ∈ Region.ready md ops l, wpOp P ops Q i (fun a' w' => (i ≠ st → S w') ∧ wpAnyL P md ops Q S st n (l.setIfInBounds i true) a' w') a w
theorem wpAny_of_L : ∀ (n : Nat) (l : Array Bool) (a : Act) (w : World), wpAnyL P md ops Q S st n l a w → wpAny P md ops Q n l a w
  | 0, _, _, _, h => h
  | n + 1, _, _, _, h => ⟨h.1, fun i hi => wpOp_mono (fun a' w' h' => wpAny_of_L n _ a' w' h'.2) (h.2 i hi)⟩
/-- what is listed is listed with all that it waits for -/
def Clos (md : Region.Mode) (ops : Array Oper) (l : Array Bool) : Prop := ∀ (j : Nat) (oj : Oper), ops[j]? = some oj → l.getD j false = true → ∀ e ∈ oj.after, Region.binds md e = true → l.getD e.on false = true
def waits (md : Region.Mode) (ops : Array Oper) (i : Nat) : Nat → Nat → Bool
  | 0, _ => false
  | n + 1, j => match ops[j]? with
    | none => false
    | some oj => oj.after.any (fun e => Region.binds md e && (e.on == i || waits md ops i n e.on))
theorem waits_listed {i : Nat} {l : Array Bool} (hc : Clos md ops l) : ∀ (n j : Nat), waits md ops i n j = true → l.getD j false = true → l.getD i false = true
  | 0, j, h, _ => by simp [waits] at h
  | n + 1, j, h, hj => by
    rw [waits] at h
    split at h
    · cases h
    · rename_i oj ho
      rw [Array.any_eq_true] at h
      obtain ⟨k, hk, h⟩ := h
      simp only [Bool.and_eq_true, Bool.or_eq_true, beq_iff_eq] at h
      have h1 := hc j oj ho hj _ (Array.getElem_mem hk) h.1
      rcases h.2 with h2 | h2
      · rw [h2] at h1
        exact h1
      · exact waits_listed hc n _ h2 h1
theorem waits_ready {i j n : Nat} {l : Array Bool} (hc : Clos md ops l) (h : waits md ops i n j = true) (hr : j ∈ Region.ready md ops l) : l.getD i false = true := by
  obtain ⟨_, oj, ho, hall⟩ := mem_ready.1 hr
  cases n with
  | zero => simp [waits] at h
  | succ n =>
    rw [waits, ho] at h
    simp only at h
    rw [Array.any_eq_true] at h
    obtain ⟨k, hk, h⟩ := h
    simp only [Bool.and_eq_true, Bool.or_eq_true, beq_iff_eq] at h
    have h1 := hall _ (Array.getElem_mem hk) h.1
    rcases h.2 with h2 | h2
    · rw [h2] at h1
      exact h1
    · exact waits_listed hc n _ h2 h1
theorem Clos.set {l : Array Bool} {i : Nat} (hc : Clos md ops l) (hi : i ∈ Region.ready md ops l) : Clos md ops (l.setIfInBounds i true) := fun j oj hj hl e he hb => by
  by_cases hji : i = j
  · subst hji
    obtain ⟨_, o, ho, hall⟩ := mem_ready.1 hi
    rw [hj] at ho
    injection ho with ho
    subst ho
    exact getD_set_true (hall e he hb)
  · rw [getD_set_ne false hji] at hl
    exact getD_set_true (hc j oj hj hl e he hb)
theorem clos_init (n : Nat) : Clos md ops (Array.replicate n false) := fun j oj _ hl => by
  by_cases hj : j < n
  · simp [hj] at hl
  · simp [hj] at hl
theorem ready_un {i : Nat} {l : Array Bool} (hr : i ∈ Region.ready md ops l) : l.getD i false = false := by
  have h0 := (mem_ready.1 hr).1
  rcases Nat.lt_or_ge i l.size with h' | h'
  · simp [h'] at h0 ⊢
    exact h0
  · simp [Array.getElem?_eq_none h'] at h0
theorem wpAnyL_first {i : Nat} {oi : Oper} {v : Value} (hi : ops[i]? = some oi) (hsel : ∀ (j : Nat) (o : Oper) cs b, ops[j]? = some o → o.op ≠ .select cs b)
    (hQ : ∀ c a w, Q (.panic c) (a.put oi.dst v) w → Q (.panic c) a w) (n0 : Nat) (hw : waits md ops i n0 st = true) :
    ∀ (fuel : Nat) (listed : Array Bool) (a : Act) (w : World),
      (∀ j oj, ops[j]? = some oj → j ≠ i → listed.getD j true = false → (∀ e ∈ oj.after, Region.binds md e = true → e.on ≠ i) → oi.apart ops oj = true) →
      Clos md ops listed → i ∈ Region.ready md ops listed → YieldsIf P ops S oi v a → S w →
      wpAnyL P md ops Q S st fuel (listed.setIfInBounds i true) (a.put oi.dst v) w → wpAnyL P md ops Q S st (fuel + 1) listed a w := by
  intro fuel
  induction fuel with
  | zero =>
    intro listed a w _ hc hr hy hS H
    refine ⟨fun h => (by rw [h] at hr; cases hr), fun j hj => ?_⟩
    by_cases hji : j = i
    · subst hji; exact hy.wpOp hi hS ⟨fun _ => hS, H⟩
    · have := ready_mono hj hji
      rw [H.1] at this
      cases this
  | succ fuel ih =>
    intro listed a w hfree hc hr hy hS H
    refine ⟨fun h => (by rw [h] at hr; cases hr), fun j hj => ?_⟩
    by_cases hji : j = i
    · subst hji; exact hy.wpOp hi hS ⟨fun _ => hS, H⟩
    · have hjst : j ≠ st := fun e => by
        subst e
        have h1 := waits_ready hc hw hj
        rw [ready_un hr] at h1
        cases h1
      have h1 := H.2 j (ready_mono hj hji)
      obtain ⟨hjun, oj, hoj, hall⟩ := mem_ready.1 hj
      have hnot : ∀ e ∈ oj.after, Region.binds md e = true → e.on ≠ i := fun e he hb heq => by
        have h1 := hall e he hb
        rw [heq, ready_un hr] at h1
        cases h1
      have h2 := wpOp_putIf hoj (hfree j oj hoj hji hjun hnot) (fun cs b => hsel i oi cs b hi) (fun cs b => hsel j oj cs b hoj) hQ hy h1
      have hfree' : ∀ k ok, ops[k]? = some ok → k ≠ i → (listed.setIfInBounds j true).getD k true = false →
          (∀ e ∈ ok.after, Region.binds md e = true → e.on ≠ i) → oi.apart ops ok = true := fun k ok hk hki hun hno => by
        refine hfree k ok hk hki ?_ hno
        by_cases hjk : j = k
        · subst hjk; exact hjun
        · rw [getD_set_ne true hjk] at hun; exact hun
      refine wpOp_mono (fun a' w' h3 => ⟨fun _ => h3.2.1 hjst, ih (listed.setIfInBounds j true) a' w' hfree' (hc.set hj) (ready_mono hr (Ne.symm hji)) h3.1 (h3.2.1 hjst) ?_⟩) h2
      rw [Array.setIfInBounds_comm _ _ hji]
      exact h3.2.2
theorem wpAnyL_done {l : Array Bool} {a : Act} {w : World} (hr : Region.ready md ops l = []) (h : Q .normal a w) : ∀ n, wpAnyL P md ops Q S st n l a w
  | 0 => ⟨hr, h⟩
  | _ + 1 => ⟨fun _ => h, by rw [hr]; simp⟩
theorem wpAnyL_all {rs : List Nat} {n : Nat} {l : Array Bool} {a : Act} {w : World} (hr : Region.ready md ops l = rs) (hne : rs ≠ [])
    (h : ∀ i ∈ rs, wpOp P ops Q i (fun a' w' => (i ≠ st → S w') ∧ wpAnyL P md ops Q S st n (l.setIfInBounds i true) a' w') a w) : wpAnyL P md ops Q S st (n + 1) l a w :=
  ⟨fun h0 => absurd (hr ▸ h0) hne, hr ▸ h⟩
def isDone : Tr → Bool
  | .done => true
  | _ => false
def trL (ops : Array Oper) (st : Nat) : Tr → Bool
  | .done => true
  | .float i t => waits .any ops i ops.size st && trL ops st t
  | .one i t => (i != st || isDone t) && trL ops st t
  | .two i t j u => i != st && j != st && trL ops st t && trL ops st u
  | _ => false
def stepTrL (P : Program) (ops : Array Oper) (Q : Exit → Act → World → Prop) (S : World → Prop) (st i : Nat) (K : Act → World → Prop) (a : Act) (w : World) : Prop :=
  ∃ o, ops[i]? = some o ∧ ((Region.wanted o (yielded ops a.tmps) = true ∧ o.wp P a w (fun a' w' => (i ≠ st → S w') ∧ K a' w') Q) ∨ (Region.wanted o (yielded ops a.tmps) = false ∧ K (a.put o.dst undef) w))
def wpTrL (P : Program) (ops : Array Oper) (Q : Exit → Act → World → Prop) (S : World → Prop) (st : Nat) : Tr → Act → World → Prop
  | .done, a, w => Q .normal a w
  | .float i t, a, w => ∃ o, ops[i]? = some o ∧ ((Region.wanted o (yielded ops a.tmps) = true ∧ ∃ v, (∀ w', S w' → (execOp a.eval o).run P w' = .ok (.value v) w') ∧ wpTrL P ops Q S st t (a.put o.dst v) w) ∨
      (Region.wanted o (yielded ops a.tmps) = false ∧ wpTrL P ops Q S st t (a.put o.dst undef) w))
  | .one i t, a, w => stepTrL P ops Q S st i (wpTrL P ops Q S st t) a w
  | .two i t j u, a, w => stepTrL P ops Q S st i (wpTrL P ops Q S st t) a w ∧ stepTrL P ops Q S st j (wpTrL P ops Q S st u) a w
  | _, _, _ => False
theorem stepTrL_op {i n : Nat} {l : Array Bool} {K : Act → World → Prop} {a : Act} {w : World} (hS : S w)
    (hK : ∀ a' w', (i ≠ st → S w') → K a' w' → wpAnyL P .any ops Q S st n (l.setIfInBounds i true) a' w') (h : stepTrL P ops Q S st i K a w) :
    wpOp P ops Q i (fun a' w' => (i ≠ st → S w') ∧ wpAnyL P .any ops Q S st n (l.setIfInBounds i true) a' w') a w := by
  obtain ⟨o, ho, h⟩ := h
  unfold wpOp
  simp only [ho]
  rcases h with ⟨hw, h⟩ | ⟨hw, h⟩
  · rw [if_pos hw]
    exact .inl (Oper.wp_mono (fun a' w' h' => ⟨h'.1, hK _ _ h'.1 h'.2⟩) h)
  · rw [if_neg (by rw [hw]; simp)]
    exact ⟨fun _ => hS, hK _ _ (fun _ => hS) h⟩
theorem wpTrL_sound (hs : Region.noSelect ops = true) (hQ : ∀ c a (d : Option Tmp) v w, Q (.panic c) (a.put d v) w → Q (.panic c) a w) : ∀ (t : Tr) (n : Nat) (l : Array Bool) (a : Act) (w : World),
    trGo ops t n l = true → trL ops st t = true → Clos .any ops l → S w → wpTrL P ops Q S st t a w → wpAnyL P .any ops Q S st n l a w
  | .done, n, l, a, w, hc, _, _, _, h => wpAnyL_done (by simpa [trGo] using hc) h n
  | .float i t, n, l, a, w, hc, hl, hcl, hS, h => by
    simp only [trGo, Bool.and_eq_true, decide_eq_true_eq] at hc
    simp only [trL, Bool.and_eq_true] at hl
    obtain ⟨⟨hn, hr, hf⟩, hc⟩ := hc
    obtain ⟨m, rfl⟩ : ∃ m, n = m + 1 := ⟨n - 1, by omega⟩
    obtain ⟨o, ho, h⟩ := h
    have hri : i ∈ Region.ready .any ops l := by simpa using hr
    rcases h with ⟨hw, v, hv, h⟩ | ⟨hw, h⟩
    · exact wpAnyL_first ho (Region.noSelect_spec hs) (fun c a w hq => hQ c a _ _ w hq) _ hl.1 m l a w (Region.free_spec ho hf) hcl hri (.inl ⟨hw, hv⟩) hS (wpTrL_sound hs hQ t m _ _ _ hc hl.2 (hcl.set hri) hS h)
    · exact wpAnyL_first ho (Region.noSelect_spec hs) (fun c a w hq => hQ c a _ _ w hq) _ hl.1 m l a w (Region.free_spec ho hf) hcl hri (.inr ⟨hw, rfl⟩) hS (wpTrL_sound hs hQ t m _ _ _ hc hl.2 (hcl.set hri) hS h)
  | .one i t, n, l, a, w, hc, hl, hcl, hS, h => by
    simp only [trGo, Bool.and_eq_true, decide_eq_true_eq, beq_iff_eq] at hc
    simp only [trL, Bool.and_eq_true, Bool.or_eq_true, bne_iff_ne] at hl
    obtain ⟨⟨hn, hr⟩, hc⟩ := hc
    obtain ⟨m, rfl⟩ : ∃ m, n = m + 1 := ⟨n - 1, by omega⟩
    refine wpAnyL_all hr (by simp) fun j hj => ?_
    obtain rfl : j = i := by simpa using hj
    have hri : j ∈ Region.ready .any ops l := by rw [hr]; simp
    refine stepTrL_op hS (fun a' w' hS' hK => ?_) h
    by_cases hj : j = st
    · have hd := hl.1.resolve_left (fun h => h hj)
      cases t with
      | done => exact wpAnyL_done (by simpa [trGo] using hc) hK m
      | _ => cases hd
    · exact wpTrL_sound hs hQ t m _ a' w' hc hl.2 (hcl.set hri) (hS' hj) hK
  | .two i t j u, n, l, a, w, hc, hl, hcl, hS, h => by
    simp only [trGo, Bool.and_eq_true, decide_eq_true_eq, beq_iff_eq] at hc
    simp only [trL, Bool.and_eq_true, bne_iff_ne] at hl
    obtain ⟨⟨⟨hn, hr⟩, hc⟩, hc2⟩ := hc
    obtain ⟨⟨⟨hi, hj⟩, hl1⟩, hl2⟩ := hl
    obtain ⟨m, rfl⟩ : ∃ m, n = m + 1 := ⟨n - 1, by omega⟩
    have hri : i ∈ Region.ready .any ops l := by rw [hr]; simp
    have hrj : j ∈ Region.ready .any ops l := by rw [hr]; simp
    refine wpAnyL_all hr (by simp) fun q hq => ?_
    simp only [List.mem_cons, List.not_mem_nil, or_false] at hq
    rcases hq with rfl | rfl
    · exact stepTrL_op hS (fun a' w' hS' hK => wpTrL_sound hs hQ t m _ a' w' hc hl1 (hcl.set hri) (hS' hi) hK) h.1
    · exact stepTrL_op hS (fun a' w' hS' hK => wpTrL_sound hs hQ u m _ a' w' hc2 hl2 (hcl.set hrj) (hS' hj) hK) h.2
  | .three .., _, _, _, _, _, hl, _, _, _ => by simp [trL] at hl
  | .more .., _, _, _, _, _, hl, _, _, _ => by simp [trL] at hl
/-- THE REGION, along the tree t; behind st, its last operation, S need not hold. -/
theorem wp_region_treeL {id : Nat} {a : Act} {w : World} (st : Nat) (S : World → Prop) (t : Tr) (hm : P.follows .mixedOrders = true) (hc : (trOk ops t && trL ops st t) = true)
    (hQ : ∀ c a (d : Option Tmp) v w, Q (.panic c) (a.put d v) w → Q (.panic c) a w) (hS : S w.drew) (h : wpTrL P ops Q S st t a w.drew) : (Code.region id ops true).wp P Q a w := by
  rw [trOk, Bool.and_eq_true, Bool.and_eq_true] at hc
  exact wp_region_any hm (wpAny_of_L _ _ _ _ (wpTrL_sound hc.1.1 hQ t _ _ a w.drew hc.1.2 hc.2 (clos_init _) hS h))
theorem wpTrL_float {i : Nat} {t : Tr} {a : Act} {w : World} {o : Oper} {v : Value} (ho : ops[i]? = some o) (hw : Region.wanted o (yielded ops a.tmps) = true)
    (hv : ∀ w', S w' → (execOp a.eval o).run P w' = .ok (.value v) w') (h : wpTrL P ops Q S st t (a.put o.dst v) w) : wpTrL P ops Q S st (.float i t) a w :=
  ⟨o, ho, .inl ⟨hw, v, hv, h⟩⟩
theorem wpTrL_fskip {i : Nat} {t : Tr} {a : Act} {w : World} {o : Oper} (ho : ops[i]? = some o) (hw : Region.wanted o (yielded ops a.tmps) = false)
    (h : wpTrL P ops Q S st t (a.put o.dst undef) w) : wpTrL P ops Q S st (.float i t) a w :=
  ⟨o, ho, .inr ⟨hw, h⟩⟩
theorem stepTrL_K {i : Nat} {t : Tr} {a : Act} {w : World} {o : Oper} (ho : ops[i]? = some o) (hw : Region.wanted o (yielded ops a.tmps) = true)
    (h : ∀ K : Act → World → Prop, Shut (∀ a' w', S w' → wpTrL P ops Q S st t a' w' → K a' w') → o.wp P a w K Q) : stepTrL P ops Q S st i (wpTrL P ops Q S st t) a w :=
  ⟨o, ho, .inl ⟨hw, h _ (fun _ _ hb hs => ⟨fun _ => hb, hs⟩)⟩⟩
theorem stepTrL_last {t : Tr} {a : Act} {w : World} {o : Oper} (ho : ops[st]? = some o) (hw : Region.wanted o (yielded ops a.tmps) = true)
    (h : ∀ K : Act → World → Prop, Shut (∀ a' w', wpTrL P ops Q S st t a' w' → K a' w') → o.wp P a w K Q) : stepTrL P ops Q S st st (wpTrL P ops Q S st t) a w :=
  ⟨o, ho, .inl ⟨hw, h _ (fun _ _ hs => ⟨fun h => absurd rfl h, hs⟩)⟩⟩
theorem wpTrL_one {i : Nat} {t : Tr} {a : Act} {w : World} (h : stepTrL P ops Q S st i (wpTrL P ops Q S st t) a w) : wpTrL P ops Q S st (.one i t) a w := h
theorem wpTrL_two {i j : Nat} {t u : Tr} {a : Act} {w : World} (h : stepTrL P ops Q S st i (wpTrL P ops Q S st t) a w) (h' : stepTrL P ops Q S st j (wpTrL P ops Q S st u) a w) : wpTrL P ops Q S st (.two i t j u) a w := ⟨h, h'⟩
theorem wpTrL_done {a : Act} {w : World} (h : Q .normal a w) : wpTrL P ops Q S st .done a w := h
end
end Go.UtYtkpblieanejmeaa
