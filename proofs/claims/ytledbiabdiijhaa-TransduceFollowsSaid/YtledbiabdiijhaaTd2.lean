/-
  Transliteration: valid rules, steps from the beginning to the end, what they write; plain lists.
  Transliteration: rules that never match, steps that see a window, the steps of a trace; plain lists.
  Transliteration: what the walk through the trie finds; plain lists.
  Transliteration: the chapter's first example; plain lists.
-/
import Derived.Test.YtledbiabdiijhaaTd0
namespace Go.UtYtledbiabdiijhaa
def okS (s : List Rg) : Prop := Cnn s ∧ s ≠ []
def pieceOk (m : Nat) (p : Int × Int) : Prop := (p.2 = 0 ∧ codeP p.1) ∨ (p.1 = 0 ∧ 1 ≤ p.2 ∧ p.2 ≤ (m : Int))
def sizeOk (r : TR) : Prop := 1 ≤ r.mat.length ∧ r.mat.length ≤ 8 ∧ r.bef.length ≤ 8 ∧ r.aft.length ≤ 8 ∧ r.res.length ≤ 16
def setsOk (r : TR) : Prop := (∀ s ∈ r.bef, okS s) ∧ (∀ s ∈ r.mat, okS s) ∧ (∀ s ∈ r.aft, okS s)
def resOk (r : TR) : Prop := ∀ p ∈ r.res, pieceOk r.mat.length p
open Classical in
/-- the first error of a rule -/
noncomputable def chk1 (r : TR) : Int := if ¬ sizeOk r then 2 else if ¬ setsOk r then 11 else if ¬ resOk r then 1 else 0
noncomputable def chkF : List TR → Int
  | [] => 0
  | r :: l => if chk1 r = 0 then chkF l else chk1 r
noncomputable def chkL (l : List TR) : Int := if 200 < l.length then 2 else chkF l
theorem chk1_ok {r : TR} (h : chk1 r = 0) : sizeOk r ∧ setsOk r ∧ resOk r := by
  unfold chk1 at h
  by_cases h1 : sizeOk r
  · by_cases h2 : setsOk r
    · by_cases h3 : resOk r
      · exact ⟨h1, h2, h3⟩
      · simp [h1, h2, h3] at h
    · simp [h1, h2] at h
  · simp [h1] at h
theorem chk1_size {r : TR} (h : ¬ sizeOk r) : chk1 r = 2 := by unfold chk1; rw [if_pos h]
theorem chk1_sets {r : TR} (h1 : sizeOk r) (h : ¬ setsOk r) : chk1 r = 11 := by unfold chk1; rw [if_neg (fun x => x h1), if_pos h]
theorem chk1_res {r : TR} (h1 : sizeOk r) (h2 : setsOk r) (h : ¬ resOk r) : chk1 r = 1 := by unfold chk1; rw [if_neg (fun x => x h1), if_neg (fun x => x h2), if_pos h]
theorem chk1_zero {r : TR} (h1 : sizeOk r) (h2 : setsOk r) (h3 : resOk r) : chk1 r = 0 := by unfold chk1; rw [if_neg (fun x => x h1), if_neg (fun x => x h2), if_neg (fun x => x h3)]
theorem chkF_all {l : List TR} (h : chkF l = 0) : ∀ r ∈ l, chk1 r = 0 := by
  induction l with
  | nil => intro r hr; simp at hr
  | cons r l ih =>
    rw [chkF] at h
    by_cases h1 : chk1 r = 0
    · rw [if_pos h1] at h
      intro s hs
      rcases List.mem_cons.1 hs with rfl | hs
      · exact h1
      · exact ih h s hs
    · rw [if_neg h1] at h
      exact absurd h h1
theorem chkF_zero {l : List TR} (h : ∀ r ∈ l, chk1 r = 0) : chkF l = 0 := by
  induction l with
  | nil => rfl
  | cons r l ih => rw [chkF, if_pos (h r (by simp)), ih (fun s hs => h s (by simp [hs]))]
theorem chkF_at {a b : List TR} {r : TR} (h : ∀ s ∈ a, chk1 s = 0) (hr : chk1 r ≠ 0) : chkF (a ++ r :: b) = chk1 r := by
  induction a with
  | nil => rw [List.nil_append, chkF, if_neg hr]
  | cons s a ih => rw [List.cons_append, chkF, if_pos (h s (by simp)), ih (fun t ht => h t (by simp [ht]))]
/-- the rules if they are valid, else none -/
noncomputable def dataL (l : List TR) : List TR := if chkL l = 0 then l else []
theorem chkL_small {l : List TR} (h : ¬ 200 < l.length) : chkL l = chkF l := by unfold chkL; rw [if_neg h]
theorem data_ok {l : List TR} : ∀ r ∈ dataL l, chk1 r = 0 := by
  unfold dataL
  by_cases h : chkL l = 0
  · rw [if_pos h]
    by_cases h2 : 200 < l.length
    · unfold chkL at h
      rw [if_pos h2] at h
      cases h
    · rw [chkL_small h2] at h
      exact chkF_all h
  · rw [if_neg h]
    intro r hr
    simp at hr
theorem data_len (l : List TR) : (dataL l).length ≤ l.length := by
  unfold dataL
  split <;> simp
noncomputable def stepF (rules : List TR) (text : List Int) (p : Nat) : Int × Int := (Classical.choose (step_ex rules text p), Classical.choose (Classical.choose_spec (step_ex rules text p)))
theorem stepF_spec (rules : List TR) (text : List Int) (p : Nat) : IsStep rules text p (stepF rules text p).1 (stepF rules text p).2 := Classical.choose_spec (Classical.choose_spec (step_ex rules text p))
theorem stepF_eq {rules : List TR} {text : List Int} {p : Nat} {i n : Int} (h : IsStep rules text p i n) : stepF rules text p = (i, n) := by
  have := step_unique (stepF_spec rules text p) h
  exact Prod.ext this.1 this.2
/-- what a step writes -/
def writS (rules : List TR) (text : List Int) (p : Nat) (i : Int) : List Int :=
  if i < 0 then [text.getD p 0] else ((rules[i.toNat]?.map TR.res).getD []).map fun q => if q.2 = 0 then q.1 else text.getD (p + q.2.toNat - 1) 0
/-- all rules match something -/
def matOk (rules : List TR) : Prop := ∀ r ∈ rules, 1 ≤ r.mat.length
theorem step_pos {rules : List TR} (h : matOk rules) {text : List Int} {p : Nat} {i n : Int} (hs : IsStep rules text p i n) : 1 ≤ n := by
  rcases hs with ⟨_, rfl, _⟩ | ⟨k, r, _, hk, rfl, _⟩
  · omega
  · have := h r (List.mem_of_getElem? hk)
    omega
theorem step_in {rules : List TR} {text : List Int} {p : Nat} (hp : p < text.length) {i n : Int} (hs : IsStep rules text p i n) : (p : Int) + n ≤ text.length := by
  rcases hs with ⟨_, rfl, _⟩ | ⟨k, r, _, hk, rfl, ha, _⟩
  · omega
  · have := ((hits_append.1 ha.1).1).1
    omega
/-- the steps from a position on -/
noncomputable def trR (rules : List TR) (text : List Int) (p : Nat) : List (Int × Int × Int) :=
  if _h : p < text.length then ((p : Int), (stepF rules text p).1, (stepF rules text p).2) :: trR rules text (p + max 1 (stepF rules text p).2.toNat) else []
termination_by text.length - p
decreasing_by omega
/-- what the steps from a position on write -/
noncomputable def outR (rules : List TR) (text : List Int) (p : Nat) : List Int :=
  if _h : p < text.length then writS rules text p (stepF rules text p).1 ++ outR rules text (p + max 1 (stepF rules text p).2.toNat) else []
termination_by text.length - p
decreasing_by omega
theorem trR_end {rules : List TR} {text : List Int} {p : Nat} (h : ¬ p < text.length) : trR rules text p = [] := by rw [trR, dif_neg h]
theorem outR_end {rules : List TR} {text : List Int} {p : Nat} (h : ¬ p < text.length) : outR rules text p = [] := by rw [outR, dif_neg h]
theorem trR_step {rules : List TR} (hm : matOk rules) {text : List Int} {p : Nat} (h : p < text.length) {i n : Int} (hs : IsStep rules text p i n) : trR rules text p = ((p : Int), i, n) :: trR rules text (p + n.toNat) := by
  have h1 := step_pos hm hs
  rw [trR, dif_pos h, stepF_eq hs]
  simp only
  rw [show max 1 n.toNat = n.toNat by omega]
theorem outR_step {rules : List TR} (hm : matOk rules) {text : List Int} {p : Nat} (h : p < text.length) {i n : Int} (hs : IsStep rules text p i n) : outR rules text p = writS rules text p i ++ outR rules text (p + n.toNat) := by
  have h1 := step_pos hm hs
  rw [outR, dif_pos h, stepF_eq hs]
  simp only
  rw [show max 1 n.toNat = n.toNat by omega]
theorem data_mat (l : List TR) : matOk (dataL l) := fun r hr => (chk1_ok (data_ok r hr)).1.1
end Go.UtYtledbiabdiijhaa
namespace Go.UtYtledbiabdiijhaa
theorem win_get {text : List Int} {lo hi i : Nat} (h : lo + i < hi) : ((text.drop lo).take (hi - lo))[i]? = text[lo + i]? := by
  rw [List.getElem?_take, if_pos (by omega), List.getElem?_drop]
theorem win_len {text : List Int} {lo hi : Nat} (h : hi ≤ text.length) : ((text.drop lo).take (hi - lo)).length = hi - lo := by
  rw [List.length_take, List.length_drop]
  omega
theorem hits_win {sets : List (List Rg)} {text : List Int} {p lo hi : Nat} (h1 : lo ≤ p) (h2 : p + sets.length ≤ hi) (h3 : hi ≤ text.length) : hits sets ((text.drop lo).take (hi - lo)) (p - lo) ↔ hits sets text p := by
  constructor
  · rintro ⟨_, h⟩
    refine ⟨by omega, fun i s c hs hc => h i s c hs ?_⟩
    have hi' := (List.getElem?_eq_some_iff.1 hs).1
    rw [win_get (by omega), show lo + (p - lo + i) = p + i by omega]
    exact hc
  · rintro ⟨_, h⟩
    refine ⟨by rw [win_len h3]; omega, fun i s c hs hc => h i s c hs ?_⟩
    have hi' := (List.getElem?_eq_some_iff.1 hs).1
    rw [win_get (by omega), show lo + (p - lo + i) = p + i by omega] at hc
    exact hc
theorem appl_win {r : TR} {text : List Int} {p bf ah lo hi : Nat} (hp : p < text.length) (hb : r.bef.length ≤ bf) (ha : r.ma.length ≤ ah) (hlo : lo = p - bf) (hhi : hi = min text.length (p + max 1 ah)) : appl r ((text.drop lo).take (hi - lo)) (p - lo) ↔ appl r text p := by
  have hl : lo ≤ p := by omega
  have hh : hi ≤ text.length := by omega
  have e1 : hits r.ma ((text.drop lo).take (hi - lo)) (p - lo) ↔ hits r.ma text p := by
    by_cases hc : p + r.ma.length ≤ hi
    · exact hits_win hl hc hh
    · constructor
      · rintro ⟨h, _⟩
        rw [win_len hh] at h
        omega
      · rintro ⟨h, _⟩
        omega
  have e2 : prec r ((text.drop lo).take (hi - lo)) (p - lo) ↔ prec r text p := by
    unfold prec
    constructor
    · rintro ⟨h1, h2⟩
      refine ⟨by omega, ?_⟩
      rw [show p - lo - r.bef.length = p - r.bef.length - lo by omega] at h2
      exact (hits_win (by omega) (by omega) hh).1 h2
    · rintro ⟨h1, h2⟩
      refine ⟨by omega, ?_⟩
      rw [show p - lo - r.bef.length = p - r.bef.length - lo by omega]
      exact (hits_win (by omega) (by omega) hh).2 h2
  unfold appl
  rw [e1, e2]
/-- how far rules look -/
def bfR (rules : List TR) : Nat := rules.foldl (fun a r => max a r.bef.length) 0
def ahR (rules : List TR) : Nat := rules.foldl (fun a r => max a r.ma.length) 0
theorem foldl_max (f : TR → Nat) : ∀ (l : List TR) (a : Nat), a ≤ l.foldl (fun a r => max a (f r)) a ∧ ∀ r ∈ l, f r ≤ l.foldl (fun a r => max a (f r)) a
  | [], a => ⟨Nat.le_refl _, fun r hr => by simp at hr⟩
  | s :: l, a => by
    obtain ⟨h1, h2⟩ := foldl_max f l (max a (f s))
    rw [List.foldl_cons]
    refine ⟨by omega, fun r hr => ?_⟩
    rcases List.mem_cons.1 hr with rfl | hr
    · omega
    · exact h2 r hr
theorem bf_le {rules : List TR} {r : TR} (h : r ∈ rules) : r.bef.length ≤ bfR rules := (foldl_max (fun r => r.bef.length) rules 0).2 r h
theorem ah_le {rules : List TR} {r : TR} (h : r ∈ rules) : r.ma.length ≤ ahR rules := (foldl_max (fun r => r.ma.length) rules 0).2 r h
theorem foldl_bd (f : TR → Nat) (B : Nat) : ∀ (l : List TR) (a : Nat), a ≤ B → (∀ r ∈ l, f r ≤ B) → l.foldl (fun a r => max a (f r)) a ≤ B
  | [], a, h, _ => h
  | s :: l, a, h, hl => by
    rw [List.foldl_cons]
    exact foldl_bd f B l _ (by have := hl s (by simp); omega) (fun r hr => hl r (by simp [hr]))
theorem step_win {rules : List TR} {text : List Int} {p bf ah lo hi : Nat} (hp : p < text.length) (hb : bfR rules ≤ bf) (ha : ahR rules ≤ ah) (hlo : lo = p - bf) (hhi : hi = min text.length (p + max 1 ah)) {i n : Int} (h : IsStep rules text p i n) : IsStep rules ((text.drop lo).take (hi - lo)) (p - lo) i n := by
  have hw : ∀ r ∈ rules, (appl r ((text.drop lo).take (hi - lo)) (p - lo) ↔ appl r text p) := fun r hr => appl_win hp (Nat.le_trans (bf_le hr) hb) (Nat.le_trans (ah_le hr) ha) hlo hhi
  rcases h with ⟨h1, h2, h3⟩ | ⟨k, r, h1, h2, h3, h4, h5⟩
  · exact .inl ⟨h1, h2, fun k r hk h => h3 k r hk ((hw r (List.mem_of_getElem? hk)).1 h)⟩
  · exact .inr ⟨k, r, h1, h2, h3, (hw r (List.mem_of_getElem? h2)).2 h4, fun k' r' hl hk h => h5 k' r' hl hk ((hw r' (List.mem_of_getElem? hk)).1 h)⟩
/-- rules of which no set of a Match holds an element of the text do not apply -/
theorem keep_step {rules : List TR} (hm : matOk rules) {text : List Int} (hno : ∀ r ∈ rules, ∀ s ∈ r.mat, ∀ c ∈ text, ¬ hasP s c) {p : Nat} (hp : p < text.length) : IsStep rules text p (-1) 1 := by
  refine .inl ⟨rfl, rfl, fun k r hk ha => ?_⟩
  have hr := List.mem_of_getElem? hk
  have h1 := hm r hr
  have h2 := (hits_append.1 ha.1).1
  have h3 := h2.2 0 r.mat[0] text[p] (List.getElem?_eq_getElem (by omega)) (List.getElem?_eq_getElem hp)
  exact hno r hr _ (List.getElem_mem _) _ (List.getElem_mem _) h3
theorem keep_out {rules : List TR} (hm : matOk rules) {text : List Int} (hno : ∀ r ∈ rules, ∀ s ∈ r.mat, ∀ c ∈ text, ¬ hasP s c) : ∀ (n p : Nat), text.length - p ≤ n → outR rules text p = text.drop p := by
  intro n
  induction n with
  | zero =>
    intro p hp
    rw [outR_end (by omega), List.drop_eq_nil_of_le (by omega)]
  | succ n ih =>
    intro p hp
    by_cases h : p < text.length
    · rw [outR_step hm h (keep_step hm hno h), ih _ (by simp; omega)]
      simp only [Int.toNat_one]
      rw [List.drop_eq_getElem_cons h]
      simp [writS, h]
    · rw [outR_end h, List.drop_eq_nil_of_le (by omega)]
end Go.UtYtledbiabdiijhaa
namespace Go.UtYtledbiabdiijhaa
theorem alv_sorted (rules : List TR) (q : List Int) : (alv rules q).Pairwise (· < ·) := by
  unfold alv
  exact List.Pairwise.filter _ List.pairwise_lt_range
theorem take_mem {al : List Nat} (h : al.Pairwise (· < ·)) {k i j : Nat} (hk : al[k]? = some i) (hj : j ∈ al) (hlt : j < i) : j ∈ al.take k := by
  obtain ⟨m, hm⟩ := List.getElem?_of_mem hj
  have hmk : m < k := by
    rcases Nat.lt_or_ge m k with h1 | h1
    · exact h1
    · exfalso
      rcases Nat.eq_or_lt_of_le h1 with h2 | h2
      · subst h2
        rw [hk] at hm
        cases hm
        omega
      · obtain ⟨hk1, hk2⟩ := List.getElem?_eq_some_iff.1 hk
        obtain ⟨hm1, hm2⟩ := List.getElem?_eq_some_iff.1 hm
        have := List.pairwise_iff_getElem.1 h k m hk1 hm1 h2
        omega
  rw [List.mem_iff_getElem?]
  exact ⟨m, by rw [List.getElem?_take, if_pos hmk]; exact hm⟩
section
variable {rules : List TR} {text : List Int} {p d : Nat} {b : Int}
/-- rules that are shorter, or among the first k nodes' rules and ended -/
def Pk (d : Nat) (al : List Nat) (j : Nat) (r : TR) : Prop := r.ma.length < d ∨ (r.ma.length = d ∧ j ∈ al)
theorem best_lt (h : Best rules text p (fun _ r => r.ma.length < d) b) : Best rules text p (Pk d []) b := h.mono fun k r _ hq _ _ => by
  rcases hq with h | ⟨_, h⟩
  · exact h
  · simp at h
/-- a rule that ends here and applies is among those that are alive -/
theorem appl_alive {k : Nat} {r : TR} (hk : rules[k]? = some r) (ha : appl r text p) (hd : d ≤ r.ma.length) : k ∈ alv rules (seg text p d) := alv_mem.2 ⟨r, hk, hits_fit ha.1 hd⟩
theorem best_break {k i : Nat} (h : Best rules text p (Pk d ((alv rules (seg text p d)).take k)) b) (hi : (alv rules (seg text p d))[k]? = some i) (h0 : 0 ≤ b) (hb : b ≤ (i : Int)) : Best rules text p (fun _ r => r.ma.length < d + 1) b := by
  refine h.mono fun j r hj hq ha hlt => ?_
  rcases Nat.lt_or_ge r.ma.length d with h1 | h1
  · exact .inl h1
  · refine .inr ⟨by omega, take_mem (alv_sorted _ _) hi (appl_alive hj ha h1) ?_⟩
    rcases hlt with h | h <;> omega
theorem best_more {k i : Nat} {r : TR} (h : Best rules text p (Pk d ((alv rules (seg text p d)).take k)) b) (hi : (alv rules (seg text p d))[k]? = some i) (hr : rules[i]? = some r) (hno : ¬ (r.ma.length = d ∧ appl r text p)) :
    Best rules text p (Pk d ((alv rules (seg text p d)).take (k + 1))) b := by
  refine h.mono fun j r' hj hq ha _ => ?_
  rcases hq with h1 | ⟨h1, h2⟩
  · exact .inl h1
  · refine .inr ⟨h1, ?_⟩
    obtain ⟨hl, e⟩ := List.getElem?_eq_some_iff.1 hi
    rw [List.take_succ_eq_append_getElem hl, e] at h2
    rcases List.mem_append.1 h2 with h2 | h2
    · exact h2
    · rw [List.mem_singleton] at h2
      subst h2
      rw [hr] at hj
      cases hj
      exact absurd ⟨h1, ha⟩ hno
theorem best_hit {k i : Nat} {r : TR} (h : Best rules text p (Pk d ((alv rules (seg text p d)).take k)) b) (hi : (alv rules (seg text p d))[k]? = some i) (hr : rules[i]? = some r) (hd : r.ma.length = d) (hp : p + d ≤ text.length) (hpr : prec r text p) (hb : b < 0 ∨ (i : Int) < b) :
    Best rules text p (fun _ r => r.ma.length < d + 1) (i : Int) := by
  have hfit : fitR (seg text p d) r := by
    obtain ⟨r', h1, h2⟩ := alv_mem.1 (List.mem_of_getElem? hi)
    rw [hr] at h1
    cases h1
    exact h2
  have happ : appl r text p := ⟨(fit_hits (by omega)).1 (by rw [hd]; exact hfit), hpr⟩
  have hno : ∀ (j : Nat) (r' : TR), j < i → rules[j]? = some r' → Pk d ((alv rules (seg text p d)).take k) j r' → ¬ appl r' text p := by
    intro j r' hj hjr hP
    rcases h with ⟨_, h2⟩ | ⟨kb, rb, h1, h2, h3, h4⟩
    · exact h2 j r' hjr hP
    · exact h4 j r' (by rcases hb with hb | hb <;> omega) hjr hP
  refine .inr ⟨i, r, rfl, hr, happ, fun j r' hj hjr hq ha => hno j r' hj hjr ?_ ha⟩
  rcases Nat.lt_or_ge r'.ma.length d with h1 | h1
  · exact .inl h1
  · exact .inr ⟨by omega, take_mem (alv_sorted _ _) hi (appl_alive hjr ha h1) hj⟩
theorem best_end {k : Nat} (h : Best rules text p (Pk d ((alv rules (seg text p d)).take k)) b) (hk : (alv rules (seg text p d)).length ≤ k) : Best rules text p (fun _ r => r.ma.length < d + 1) b := by
  refine h.mono fun j r hj hq ha _ => ?_
  rcases Nat.lt_or_ge r.ma.length d with h1 | h1
  · exact .inl h1
  · refine .inr ⟨by omega, ?_⟩
    rw [List.take_of_length_le hk]
    exact appl_alive hj ha h1
/-- no rule is possible any more -/
theorem best_dead (h : Best rules text p (fun _ r => r.ma.length < d) b) (he : alv rules (seg text p d) = []) : Best rules text p (fun _ _ => True) b := by
  refine h.mono fun j r hj _ ha _ => ?_
  rcases Nat.lt_or_ge r.ma.length d with h1 | h1
  · exact h1
  · have := appl_alive hj ha h1
    rw [he] at this
    simp at this
/-- the text is at its end -/
theorem best_all (h : Best rules text p (fun _ r => r.ma.length < d + 1) b) (hd : text.length ≤ p + d) : Best rules text p (fun _ _ => True) b := by
  refine h.mono fun j r hj _ ha _ => ?_
  have := ha.1.1
  omega
end
end Go.UtYtledbiabdiijhaa
namespace Go.UtYtledbiabdiijhaa
def exA : TR := ⟨[], [[(97, 97)], [(98, 98)]], [], [(120, 0)]⟩
def exB : TR := ⟨[], [[(97, 97)]], [], [(121, 0)]⟩
theorem one_ok {c : Int} (h0 : 0 ≤ c) (h1 : c ≤ 1114111) : okS [(c, c)] := ⟨⟨h0, Int.le_refl _, h1, trivial⟩, by simp⟩
theorem ex_chk {r : TR} (h : r = exA ∨ r = exB) : chk1 r = 0 := by
  rcases h with rfl | rfl
  · refine chk1_zero (by simp [sizeOk, exA]) ⟨by simp [exA], fun s hs => ?_, by simp [exA]⟩ ?_
    · simp [exA] at hs
      rcases hs with rfl | rfl
      · exact one_ok (by omega) (by omega)
      · exact one_ok (by omega) (by omega)
    · intro p hp
      simp [exA] at hp
      subst hp
      exact .inl ⟨rfl, by omega, by omega⟩
  · refine chk1_zero (by simp [sizeOk, exB]) ⟨by simp [exB], fun s hs => ?_, by simp [exB]⟩ ?_
    · simp [exB] at hs
      subst hs
      exact one_ok (by omega) (by omega)
    · intro p hp
      simp [exB] at hp
      subst hp
      exact .inl ⟨rfl, by omega, by omega⟩
theorem ex_data {l : List TR} (h : ∀ r ∈ l, r = exA ∨ r = exB) (hl : l.length ≤ 200) : dataL l = l := by
  unfold dataL
  rw [if_pos]
  rw [chkL_small (by omega)]
  exact chkF_zero (fun r hr => ex_chk (h r hr))
theorem has_one (c d : Int) : hasP [(c, c)] d ↔ codeP d ∧ d = c := by
  unfold hasP memR
  constructor
  · rintro ⟨h, r, hr, h1, h2⟩
    simp at hr
    subst hr
    exact ⟨h, by simp at h1 h2; omega⟩
  · rintro ⟨h, rfl⟩
    exact ⟨h, (d, d), by simp, by simp, by simp⟩
theorem no_prec {r : TR} {text : List Int} {p : Nat} (h : r.bef = []) (hp : p ≤ text.length) : prec r text p := by
  unfold prec
  rw [h]
  exact ⟨by simp, hits_nil (by simpa using hp)⟩
theorem hits1 {c : Int} {text : List Int} {p : Nat} (h : text[p]? = some c) (hc : codeP c) : hits [[(c, c)]] text p := by
  have hl := (List.getElem?_eq_some_iff.1 h).1
  refine ⟨by simp; omega, fun i s d hs hd => ?_⟩
  cases i with
  | zero =>
    simp at hs
    subst hs
    rw [Nat.add_zero, h] at hd
    injection hd with hd
    subst hd
    exact (has_one _ _).2 ⟨hc, rfl⟩
  | succ i => simp at hs
theorem ex_applA {text : List Int} {p : Nat} (h1 : text[p]? = some 97) (h2 : text[p + 1]? = some 98) : appl exA text p := by
  have hl := (List.getElem?_eq_some_iff.1 h2).1
  refine ⟨?_, no_prec rfl (by omega)⟩
  have e : exA.ma = [[(97, 97)]] ++ [[(98, 98)]] := rfl
  rw [e, hits_append]
  exact ⟨hits1 h1 ⟨by omega, by omega⟩, hits1 h2 ⟨by omega, by omega⟩⟩
theorem ex_applB {text : List Int} {p : Nat} (h1 : text[p]? = some 97) : appl exB text p := by
  have hl := (List.getElem?_eq_some_iff.1 h1).1
  refine ⟨?_, no_prec rfl (by omega)⟩
  have e : exB.ma = [[(97, 97)]] := rfl
  rw [e]
  exact hits1 h1 ⟨by omega, by omega⟩
theorem ex_notA {text : List Int} {p : Nat} {c : Int} (h1 : text[p + 1]? = some c) (hc : c ≠ 98) : ¬ appl exA text p := fun h => by
  have := h.1.2 1 [(98, 98)] c rfl h1
  rw [has_one] at this
  exact hc this.2
theorem ex_notA0 {text : List Int} {p : Nat} {c : Int} (h1 : text[p]? = some c) (hc : c ≠ 97) : ¬ appl exA text p := fun h => by
  have := h.1.2 0 [(97, 97)] c rfl h1
  rw [has_one] at this
  exact hc this.2
theorem ex_step0 : IsStep [exA, exB] [97, 97, 98] 0 1 1 := .inr ⟨1, exB, rfl, rfl, rfl, ex_applB rfl, fun k r hk hr => by
  obtain rfl : k = 0 := by omega
  simp at hr
  subst hr
  exact ex_notA (c := 97) rfl (by omega)⟩
theorem ex_step1 : IsStep [exA, exB] [97, 97, 98] 1 0 2 := .inr ⟨0, exA, rfl, rfl, rfl, ex_applA rfl rfl, fun k r hk => by omega⟩
theorem ex_mat {l : List TR} (h : ∀ r ∈ l, r = exA ∨ r = exB) : matOk l := fun r hr => (chk1_ok (ex_chk (h r hr))).1.1
theorem ex_both : ∀ r ∈ [exA, exB], r = exA ∨ r = exB := fun r hr => by simpa using hr
theorem ex_out : outR [exA, exB] [97, 97, 98] 0 = [121, 120] := by
  rw [outR_step (ex_mat ex_both) (by simp) ex_step0]
  simp only [Int.toNat_one, Nat.zero_add]
  rw [outR_step (ex_mat ex_both) (by simp) ex_step1]
  have e : (2 : Int).toNat = 2 := rfl
  rw [e, outR_end (by simp)]
  simp [writS, exA, exB]
end Go.UtYtledbiabdiijhaa
