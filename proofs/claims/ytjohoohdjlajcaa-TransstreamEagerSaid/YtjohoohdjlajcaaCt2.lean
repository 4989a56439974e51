/-
  How the reference combines two sets, cut by cut: plain lists.
-/
import Derived.Test.YtjohoohdjlajcaaCs0
namespace Go.UtYtjohoohdjlajcaa
def plc (n : Int) : List Int → List Int
  | [] => [n]
  | x :: l => if x < n then x :: plc n l else if n < x then n :: x :: l else x :: l
theorem plc_low {n : Int} {l : List Int} (h : ∀ x ∈ l, x < n) : plc n l = l ++ [n] := by
  induction l with
  | nil => rfl
  | cons x l ih => rw [plc, if_pos (h x (by simp)), ih (fun y hy => h y (by simp [hy])), List.cons_append]
theorem plc_at {n : Int} {l m : List Int} {x : Int} (h : ∀ x ∈ l, x < n) (hx : ¬ x < n) : plc n (l ++ x :: m) = l ++ (if n < x then [n] else []) ++ x :: m := by
  induction l with
  | nil =>
    rw [List.nil_append, plc, if_neg hx]
    split <;> simp
  | cons y l ih => rw [List.cons_append, plc, if_pos (h y (by simp)), ih (fun y hy => h y (by simp [hy]))]; simp
theorem plc_mem {n x : Int} {l : List Int} : x ∈ plc n l ↔ x ∈ l ∨ x = n := by
  induction l with
  | nil => simp [plc]
  | cons y l ih =>
    rw [plc]
    split
    · simp only [List.mem_cons, ih]
      exact or_assoc.symm
    · split
      · simp only [List.mem_cons]
        constructor
        · rintro (h | h | h)
          · exact .inr h
          · exact .inl (.inl h)
          · exact .inl (.inr h)
        · rintro ((h | h) | h)
          · exact .inr (.inl h)
          · exact .inr (.inr h)
          · exact .inl h
      · have : y = n := by omega
        subst this
        simp only [List.mem_cons]
        exact ⟨.inl, fun h => h.elim id .inl⟩
theorem plc_len (n : Int) (l : List Int) : (plc n l).length ≤ l.length + 1 := by
  induction l with
  | nil => simp [plc]
  | cons y l ih =>
    rw [plc]
    split
    · simp only [List.length_cons]; omega
    · split <;> simp
/-- ascending -/
def Asc : List Int → Prop
  | [] => True
  | x :: l => (∀ y ∈ l, x < y) ∧ Asc l
theorem plc_asc {n : Int} {l : List Int} (h : Asc l) : Asc (plc n l) := by
  induction l with
  | nil => exact ⟨fun y hy => by simp at hy, trivial⟩
  | cons x l ih =>
    obtain ⟨h1, h2⟩ := h
    rw [plc]
    split
    · refine ⟨fun y hy => ?_, ih h2⟩
      rcases plc_mem.1 hy with hy | hy
      · exact h1 y hy
      · omega
    · split
      · refine ⟨fun y hy => ?_, h1, h2⟩
        rcases List.mem_cons.1 hy with rfl | hy
        · assumption
        · have := h1 y hy; omega
      · exact ⟨h1, h2⟩
def cut1 (l : List Int) (r : Rg) : List Int :=
  let l := if 0 ≤ r.1 ∧ r.1 ≤ 1114111 then plc r.1 l else l
  if 0 ≤ r.2 ∧ r.2 < 1114111 then plc (r.2 + 1) l else l
def cutsR (l : List Int) (rs : List Rg) : List Int := plc 0 (rs.foldl cut1 l)
theorem cut1_mem {l : List Int} {r : Rg} {x : Int} : x ∈ cut1 l r ↔ x ∈ l ∨ (x = r.1 ∧ 0 ≤ r.1 ∧ r.1 ≤ 1114111) ∨ (x = r.2 + 1 ∧ 0 ≤ r.2 ∧ r.2 < 1114111) := by
  unfold cut1
  by_cases h1 : 0 ≤ r.1 ∧ r.1 ≤ 1114111 <;> by_cases h2 : 0 ≤ r.2 ∧ r.2 < 1114111
  · simp only [if_pos h1, if_pos h2, plc_mem]
    constructor
    · rintro ((h | h) | h)
      · exact .inl h
      · exact .inr (.inl ⟨h, h1⟩)
      · exact .inr (.inr ⟨h, h2⟩)
    · rintro (h | ⟨h, _⟩ | ⟨h, _⟩)
      · exact .inl (.inl h)
      · exact .inl (.inr h)
      · exact .inr h
  · simp only [if_pos h1, if_neg h2, plc_mem]
    constructor
    · rintro (h | h)
      · exact .inl h
      · exact .inr (.inl ⟨h, h1⟩)
    · rintro (h | ⟨h, _⟩ | ⟨h, h'⟩)
      · exact .inl h
      · exact .inr h
      · exact absurd h' h2
  · simp only [if_neg h1, if_pos h2, plc_mem]
    constructor
    · rintro (h | h)
      · exact .inl h
      · exact .inr (.inr ⟨h, h2⟩)
    · rintro (h | ⟨h, h'⟩ | ⟨h, _⟩)
      · exact .inl h
      · exact absurd h' h1
      · exact .inr h
  · simp only [if_neg h1, if_neg h2]
    constructor
    · exact .inl
    · rintro (h | ⟨h, h'⟩ | ⟨h, h'⟩)
      · exact h
      · exact absurd h' h1
      · exact absurd h' h2
theorem cut1_asc {l : List Int} {r : Rg} (h : Asc l) : Asc (cut1 l r) := by
  unfold cut1
  by_cases h1 : 0 ≤ r.1 ∧ r.1 ≤ 1114111 <;> by_cases h2 : 0 ≤ r.2 ∧ r.2 < 1114111
  · simp only [if_pos h1, if_pos h2]; exact plc_asc (plc_asc h)
  · simp only [if_pos h1, if_neg h2]; exact plc_asc h
  · simp only [if_neg h1, if_pos h2]; exact plc_asc h
  · simp only [if_neg h1, if_neg h2]; exact h
theorem cut1_len (l : List Int) (r : Rg) : (cut1 l r).length ≤ l.length + 2 := by
  unfold cut1
  by_cases h1 : 0 ≤ r.1 ∧ r.1 ≤ 1114111 <;> by_cases h2 : 0 ≤ r.2 ∧ r.2 < 1114111
  · simp only [if_pos h1, if_pos h2]; have := plc_len (r.2 + 1) (plc r.1 l); have := plc_len r.1 l; omega
  · simp only [if_pos h1, if_neg h2]; have := plc_len r.1 l; omega
  · simp only [if_neg h1, if_pos h2]; have := plc_len (r.2 + 1) l; omega
  · simp only [if_neg h1, if_neg h2]; omega
theorem cuts_mem {rs : List Rg} {l : List Int} {x : Int} : x ∈ rs.foldl cut1 l ↔ x ∈ l ∨ ∃ r ∈ rs, (x = r.1 ∧ 0 ≤ r.1 ∧ r.1 ≤ 1114111) ∨ (x = r.2 + 1 ∧ 0 ≤ r.2 ∧ r.2 < 1114111) := by
  induction rs generalizing l with
  | nil => simp
  | cons r rs ih =>
    rw [List.foldl_cons, ih, cut1_mem]
    constructor
    · rintro ((h | h) | ⟨s, hs, h⟩)
      · exact .inl h
      · exact .inr ⟨r, by simp, h⟩
      · exact .inr ⟨s, by simp [hs], h⟩
    · rintro (h | ⟨s, hs, h⟩)
      · exact .inl (.inl h)
      · rcases List.mem_cons.1 hs with rfl | hs
        · exact .inl (.inr h)
        · exact .inr ⟨s, hs, h⟩
theorem cuts_len (rs : List Rg) (l : List Int) : (rs.foldl cut1 l).length ≤ l.length + rs.length * 2 := by
  induction rs generalizing l with
  | nil => simp
  | cons r rs ih =>
    rw [List.foldl_cons]
    have := ih (cut1 l r)
    have := cut1_len l r
    simp only [List.length_cons]
    omega
theorem cutsR_len (rs : List Rg) (l : List Int) : (cutsR l rs).length ≤ l.length + rs.length * 2 + 1 := by
  have := plc_len 0 (rs.foldl cut1 l)
  have := cuts_len rs l
  unfold cutsR
  omega
/-- good cuts: ascending code points, 0 among them if there are any -/
structure Cuts (l : List Int) : Prop where
  asc : Asc l
  code : ∀ x ∈ l, codeP x
theorem Cuts.next {l : List Int} (h : Cuts l) (rs : List Rg) : Cuts (cutsR l rs) := by
  constructor
  · unfold cutsR
    refine plc_asc ?_
    have : ∀ (rs : List Rg) (l : List Int), Asc l → Asc (rs.foldl cut1 l) := by
      intro rs
      induction rs with
      | nil => intro l h; exact h
      | cons r rs ih => intro l h; exact ih _ (cut1_asc h)
    exact this rs l h.asc
  · intro x hx
    unfold cutsR at hx
    rcases plc_mem.1 hx with hx | rfl
    · rcases cuts_mem.1 hx with hx | ⟨r, _, ⟨rfl, h1, h2⟩ | ⟨rfl, h1, h2⟩⟩
      · exact h.code x hx
      · exact ⟨h1, h2⟩
      · exact ⟨by omega, by omega⟩
    · exact ⟨by omega, by omega⟩
theorem Cuts.nil : Cuts [] := ⟨trivial, fun x hx => by simp at hx⟩
theorem cuts_zero (rs : List Rg) (l : List Int) : (0 : Int) ∈ cutsR l rs := plc_mem.2 (.inr rfl)
theorem cuts_keep {rs : List Rg} {l : List Int} {x : Int} (h : x ∈ l) : x ∈ cutsR l rs := plc_mem.2 (.inl (cuts_mem.2 (.inl h)))
/-- a set changes at its cuts alone -/
theorem cuts_change {rs : List Rg} {l : List Int} {x : Int} (hx : 1 ≤ x ∧ x ≤ 1114111) (hn : x ∉ cutsR l rs) : hasP rs x ↔ hasP rs (x - 1) := by
  have hno : ∀ r ∈ rs, ¬ ((x = r.1 ∧ 0 ≤ r.1 ∧ r.1 ≤ 1114111) ∨ (x = r.2 + 1 ∧ 0 ≤ r.2 ∧ r.2 < 1114111)) := fun r hr h => hn (plc_mem.2 (.inl (cuts_mem.2 (.inr ⟨r, hr, h⟩))))
  constructor
  · rintro ⟨_, r, hr, h1, h2⟩
    have := hno r hr
    exact ⟨⟨by omega, by omega⟩, r, hr, by omega, by omega⟩
  · rintro ⟨_, r, hr, h1, h2⟩
    have := hno r hr
    exact ⟨⟨by omega, by omega⟩, r, hr, by omega, by omega⟩
/-- no cut from L + 1 to H: the set is as at L -/
theorem cuts_const {rs : List Rg} {cs : List Int} {L H : Int} (h0 : 0 ≤ L) (hH : H ≤ 1114111) (hch : ∀ x, 1 ≤ x → x ≤ 1114111 → x ∉ cs → (hasP rs x ↔ hasP rs (x - 1))) (hn : ∀ x, L < x → x ≤ H → x ∉ cs) : ∀ (n : Nat), L + n ≤ H → (hasP rs (L + n) ↔ hasP rs L) := by
  intro n
  induction n with
  | zero => intro _; simp
  | succ n ih =>
    intro h
    have h1 := hch (L + (n + 1 : Nat)) (by omega) (by omega) (hn _ (by omega) (by omega))
    rw [h1, show L + ((n + 1 : Nat) : Int) - 1 = L + n by omega]
    exact ih (by omega)
theorem asc_get {l : List Int} (h : Asc l) {i j : Nat} {x y : Int} (hij : i < j) (hi : l[i]? = some x) (hj : l[j]? = some y) : x < y := by
  induction l generalizing i j with
  | nil => simp at hi
  | cons a l ih =>
    obtain ⟨h1, h2⟩ := h
    cases j with
    | zero => omega
    | succ j =>
      simp at hj
      cases i with
      | zero =>
        simp at hi
        subst hi
        exact h1 y (List.mem_of_getElem? hj)
      | succ i =>
        simp at hi
        exact ih h2 (by omega) hi hj
/-- between a cut and the next one there is none -/
theorem asc_gap {l : List Int} (h : Asc l) {i : Nat} {x y z : Int} (hi : l[i]? = some x) (hj : l[i + 1]? = some y) (h1 : x < z) (h2 : z < y) : z ∉ l := by
  intro hz
  obtain ⟨k, hk, e⟩ := List.getElem_of_mem hz
  have ek : l[k]? = some z := e ▸ List.getElem?_eq_getElem hk
  rcases Nat.lt_trichotomy k i with g | g | g
  · have := asc_get h g ek hi; omega
  · subst g; rw [hi] at ek; cases ek; omega
  · by_cases g2 : k = i + 1
    · subst g2; rw [hj] at ek; cases ek; omega
    · have := asc_get h (show i + 1 < k by omega) hj ek; omega
theorem asc_end {l : List Int} (h : Asc l) {i : Nat} {x z : Int} (hi : l[i]? = some x) (hl : l.length ≤ i + 1) (h1 : x < z) : z ∉ l := by
  intro hz
  obtain ⟨k, hk, e⟩ := List.getElem_of_mem hz
  have ek : l[k]? = some z := e ▸ List.getElem?_eq_getElem hk
  rcases Nat.lt_trichotomy k i with g | g | g
  · have := asc_get h g ek hi; omega
  · subst g; rw [hi] at ek; cases ek; omega
  · omega
/-- where the interval of cut i ends -/
def cutEnd (cs : List Int) (i : Nat) : Int := match cs[i + 1]? with | some y => y - 1 | none => 1114111
def cutBeg (cs : List Int) (i : Nat) : Int := match cs[i]? with | some y => y | none => 1114112
theorem cutEnd_beg (cs : List Int) (i : Nat) : cutEnd cs i + 1 = cutBeg cs (i + 1) := by
  unfold cutEnd cutBeg
  split <;> simp_all
theorem cut_le {cs : List Int} (h : Cuts cs) {i : Nat} {x : Int} (hi : cs[i]? = some x) : x ≤ cutEnd cs i ∧ cutEnd cs i ≤ 1114111 ∧ 0 ≤ x ∧ ∀ z, x < z → z ≤ cutEnd cs i → z ∉ cs := by
  have hx := h.code x (List.mem_of_getElem? hi)
  unfold cutEnd
  cases hj : cs[i + 1]? with
  | some y =>
    have hy := h.code y (List.mem_of_getElem? hj)
    have := asc_get h.asc (Nat.lt_succ_self i) hi hj
    simp only
    exact ⟨by omega, by have := hy.2; omega, hx.1, fun z h1 h2 => asc_gap h.asc hi hj h1 (by omega)⟩
  | none =>
    simp only
    have := List.getElem?_eq_none_iff.1 hj
    exact ⟨hx.2, Int.le_refl _, hx.1, fun z h1 h2 => asc_end h.asc hi this h1⟩
/-- what combine has made of the code points below L -/
structure Comb (K : Int → Prop) (out : List Rg) (op : Bool) (L : Int) : Prop where
  can : Cnn out
  mem : ∀ x, memR out x ↔ (0 ≤ x ∧ x < L ∧ K x)
  on : op = true → ∃ o a, out = o ++ [(a, L - 1)]
  off : op = false → ∀ r ∈ out, r.2 + 2 ≤ L
theorem Comb.nil (K : Int → Prop) : Comb K [] false 0 := ⟨trivial, fun x => ⟨fun h => absurd h memR_nil, fun h => by omega⟩, (fun h => by cases h), fun _ r hr => by simp at hr⟩
theorem Comb.skip {K : Int → Prop} {out : List Rg} {op : Bool} {L H : Int} (c : Comb K out op L) (h1 : L ≤ H) (hk : ∀ x, L ≤ x → x ≤ H → ¬ K x) : Comb K out false (H + 1) := by
  refine ⟨c.can, fun x => ?_, (fun h => by cases h), fun _ r hr => ?_⟩
  · rw [c.mem]
    constructor
    · rintro ⟨a, b, d⟩; exact ⟨a, by omega, d⟩
    · rintro ⟨a, b, d⟩
      refine ⟨a, ?_, d⟩
      rcases Int.lt_or_le x L with h | h
      · exact h
      · exact absurd d (hk x h (by omega))
  · cases ho : op with
    | false => have := c.off ho r hr; omega
    | true =>
      obtain ⟨o, a, e⟩ := c.on ho
      have hc := c.can
      rw [e] at hc hr
      obtain ⟨_, g2, _, g4, _⟩ := CanFrom.snoc.1 hc
      simp only at g4
      rcases List.mem_append.1 hr with hr | hr
      · have := g2 r hr; simp only at this; omega
      · simp at hr; subst hr; simp only; omega
theorem Comb.open_ {K : Int → Prop} {out : List Rg} {L H : Int} (c : Comb K out false L) (h0 : 0 ≤ L) (h1 : L ≤ H) (h2 : H ≤ 1114111) (hk : ∀ x, L ≤ x → x ≤ H → K x) : Comb K (out ++ [(L, H)]) true (H + 1) := by
  refine ⟨CanFrom.snoc.2 ⟨c.can, fun s hs => c.off rfl s hs, h0, h1, h2⟩, fun x => ?_, fun _ => ⟨out, L, by rw [Int.add_sub_cancel]⟩, fun h => by cases h⟩
  rw [memR_append, c.mem]
  simp only [memR, List.mem_singleton, exists_eq_left]
  constructor
  · rintro (⟨a, b, d⟩ | ⟨a, b⟩)
    · exact ⟨a, by omega, d⟩
    · exact ⟨by omega, by omega, hk x a b⟩
  · rintro ⟨a, b, d⟩
    rcases Int.lt_or_le x L with h | h
    · exact .inl ⟨a, h, d⟩
    · exact .inr ⟨h, by omega⟩
theorem Comb.more {K : Int → Prop} {o : List Rg} {a L H : Int} (c : Comb K (o ++ [(a, L - 1)]) true L) (h1 : L ≤ H) (h2 : H ≤ 1114111) (hk : ∀ x, L ≤ x → x ≤ H → K x) : Comb K (o ++ [(a, H)]) true (H + 1) := by
  obtain ⟨g1, g2, g3, g4, g5⟩ := CanFrom.snoc.1 c.can
  simp only at g3 g4 g5
  refine ⟨CanFrom.snoc.2 ⟨g1, fun s hs => g2 s hs, g3, by simp only; omega, h2⟩, fun x => ?_, fun _ => ⟨o, a, by rw [Int.add_sub_cancel]⟩, fun h => by cases h⟩
  have hm := c.mem x
  rw [memR_append] at hm ⊢
  simp only [memR, List.mem_singleton, exists_eq_left] at hm ⊢
  constructor
  · rintro (h | ⟨p, q⟩)
    · obtain ⟨x1, x2, x3⟩ := hm.1 (.inl h)
      exact ⟨x1, by omega, x3⟩
    · rcases Int.lt_or_le x L with h | h
      · obtain ⟨x1, x2, x3⟩ := hm.1 (.inr ⟨p, by omega⟩)
        exact ⟨x1, by omega, x3⟩
      · exact ⟨by omega, by omega, hk x h q⟩
  · rintro ⟨p, q, d⟩
    rcases Int.lt_or_le x L with h | h
    · rcases hm.2 ⟨p, h, d⟩ with g | g
      · exact .inl g
      · exact .inr ⟨g.1, by omega⟩
    · exact .inr ⟨by omega, by omega⟩
theorem Comb.has {K : Int → Prop} {out : List Rg} {op : Bool} (c : Comb K out op 1114112) (x : Int) : hasP out x ↔ codeP x ∧ K x := by
  rw [can_has c.can, c.mem]
  exact ⟨fun ⟨a, b, d⟩ => ⟨⟨a, by omega⟩, d⟩, fun ⟨⟨a, b⟩, d⟩ => ⟨a, by omega, d⟩⟩
theorem cuts_head {rs : List Rg} {l : List Int} (h : Cuts (cutsR l rs)) : cutBeg (cutsR l rs) 0 = 0 := by
  obtain ⟨k, hk, e⟩ := List.getElem_of_mem (cuts_zero rs l)
  have ek : (cutsR l rs)[k]? = some 0 := e ▸ List.getElem?_eq_getElem hk
  unfold cutBeg
  rw [List.getElem?_eq_getElem (show 0 < (cutsR l rs).length by omega)]
  simp only
  have hc := h.code _ (List.getElem_mem (show 0 < (cutsR l rs).length by omega))
  rcases Nat.eq_zero_or_pos k with h0 | h0
  · subst h0; exact e
  · have := asc_get h.asc h0 (List.getElem?_eq_getElem (by omega)) ek
    have := hc.1
    omega
theorem cut_end_all (cs : List Int) : cutBeg cs cs.length = 1114112 := by
  unfold cutBeg
  rw [List.getElem?_eq_none (Nat.le_refl _)]
theorem cutBeg_at {cs : List Int} {i : Nat} {x : Int} (h : cs[i]? = some x) : cutBeg cs i = x := by
  unfold cutBeg
  rw [h]
end Go.UtYtjohoohdjlajcaa
