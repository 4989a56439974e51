/-
  Texts of sets, and how they are read: plain lists.
-/
import Derived.Test.YtogfhaeohcpkjaaDoorCs1
import Derived.Test.YtogfhaeohcpkjaaDoorHexa
import Derived.Lib.Split
import Derived.Lib.Join
namespace Go.UtYtogfhaeohcpkjaaDoor
/-- a text, cut at each byte c -/
def chop (c : UInt8) : List UInt8 → List (List UInt8)
  | [] => [[]]
  | b :: l => if b = c then [] :: chop c l else match chop c l with
    | [] => [[b]]
    | h :: t => (b :: h) :: t
theorem chop_ne (c : UInt8) (l : List UInt8) : chop c l ≠ [] := by
  cases l with
  | nil => simp [chop]
  | cons b l =>
    rw [chop]
    split
    · simp
    · split <;> simp
theorem chop_none {c : UInt8} {l : List UInt8} (h : c ∉ l) : chop c l = [l] := by
  induction l with
  | nil => rfl
  | cons b l ih =>
    rw [chop, if_neg (fun e => h (by simp [e])), ih (fun e => h (by simp [e]))]
theorem chop_hit {c : UInt8} {a : List UInt8} (h : c ∉ a) (l : List UInt8) : chop c (a ++ c :: l) = a :: chop c l := by
  induction a with
  | nil => rw [List.nil_append, chop, if_pos rfl]
  | cons b a ih =>
    rw [List.cons_append, chop, if_neg (fun e => h (by simp [e])), ih (fun e => h (by simp [e]))]
theorem chop_join {c : UInt8} : ∀ {ws : List (List UInt8)}, ws ≠ [] → (∀ x ∈ ws, c ∉ x) → chop c (Lib.join ws [c]) = ws
  | [], h, _ => absurd rfl h
  | [x], _, h => by rw [Lib.join_one]; exact chop_none (h x (by simp))
  | x :: y :: r, _, h => by
    have e : Lib.join (x :: y :: r) [c] = x ++ c :: Lib.join (y :: r) [c] := by
      rw [Lib.join_cons, Lib.join_cons]
      simp [Lib.joinTail]
    rw [e, chop_hit (h x (by simp)), chop_join (by simp) (fun z hz => h z (by simp [hz]))]
theorem occ_at {s : List UInt8} {c : UInt8} {j : Nat} : Lib.occAt s [c] j = true ↔ s[j]? = some c := by
  unfold Lib.occAt
  have e : s[j]? = (s.drop j)[0]? := by rw [List.getElem?_drop, Nat.add_zero]
  rw [e]
  cases s.drop j with
  | nil => simp
  | cons b l =>
    simp only [List.isPrefixOf, Bool.and_true, List.getElem?_cons_zero, Option.some.injEq, beq_iff_eq]
    exact eq_comm
theorem split_chop (c : UInt8) : ∀ (n : Nat) (s : List UInt8), s.length ≤ n → Lib.splitK [c] 0 (Lib.count s [c]) s = chop c s := by
  intro n
  induction n with
  | zero =>
    intro s hs
    obtain rfl : s = [] := List.eq_nil_of_length_eq_zero (by omega)
    rfl
  | succ n ih =>
    intro s hs
    rcases Lib.index_spec s [c] with ⟨h1, h2⟩ | ⟨i, h1, h2, h3, h4⟩
    · rw [Lib.count_miss h1]
      have hn : c ∉ s := fun hm => by
        obtain ⟨j, hj, e⟩ := List.getElem_of_mem hm
        have := h2 j (by omega)
        rw [occ_at.2 (e ▸ List.getElem?_eq_getElem hj)] at this
        cases this
      rw [chop_none hn]
      rfl
    · have h3 := occ_at.1 h3
      obtain ⟨hi, e⟩ := List.getElem?_eq_some_iff.1 h3
      rw [Lib.count_hit (by simp) h1, Nat.add_comm]
      have hne : ¬ (Lib.index s [c] == -1) = true := fun e => by have := beq_iff_eq.1 e; omega
      rw [Lib.splitK, if_neg hne, h1]
      have es : s = s.take i ++ c :: s.drop (i + 1) := by
        rw [← e, ← List.drop_eq_getElem_cons hi, List.take_append_drop]
      have hn : c ∉ s.take i := fun hm => by
        obtain ⟨j, hj, e⟩ := List.getElem_of_mem hm
        have hj' : j < i := by simp at hj; omega
        have := h4 j hj'
        rw [occ_at.2 (by rw [← e, List.getElem_take]; exact List.getElem?_eq_getElem (by omega))] at this
        cases this
      have := chop_hit hn (s.drop (i + 1))
      rw [← es] at this
      rw [this, ← ih (s.drop (i + 1)) (by simp; omega)]
      rfl
theorem chop_len (c : UInt8) : ∀ (n : Nat) (s : List UInt8), s.length ≤ n → (chop c s).length = Lib.count s [c] + 1 := by
  intro n
  induction n with
  | zero =>
    intro s hs
    obtain rfl : s = [] := List.eq_nil_of_length_eq_zero (by omega)
    rfl
  | succ n ih =>
    intro s hs
    rcases Lib.index_spec s [c] with ⟨h1, h2⟩ | ⟨i, h1, h2, h3, h4⟩
    · rw [Lib.count_miss h1, ← split_chop c _ s hs, Lib.count_miss h1]
      rfl
    · have h3 := occ_at.1 h3
      obtain ⟨hi, e⟩ := List.getElem?_eq_some_iff.1 h3
      have e1 := split_chop c _ s hs
      rw [Lib.count_hit (by simp) h1, Nat.add_comm] at e1
      have hne : ¬ (Lib.index s [c] == -1) = true := fun e => by have := beq_iff_eq.1 e; omega
      rw [Lib.splitK, if_neg hne, h1] at e1
      have hl : (s.drop (i + 1)).length ≤ n := by simp; omega
      have e2 := split_chop c n (s.drop (i + 1)) hl
      rw [← e1, Lib.count_hit (by simp) h1, List.length_cons]
      have e3 := ih (s.drop (i + 1)) hl
      rw [← e2] at e3
      have e4 : ((i : Int).toNat + [c].length) = i + 1 := by simp
      rw [e4, show i + [c].length = i + 1 from rfl, e3]
      omega
/-- a piece is no longer than the text -/
theorem chop_le (c : UInt8) (s : List UInt8) : ∀ x ∈ chop c s, x.length ≤ s.length := by
  induction s with
  | nil => intro x hx; simp [chop] at hx; subst hx; simp
  | cons b l ih =>
    intro x hx
    rw [chop] at hx
    split at hx
    · rcases List.mem_cons.1 hx with rfl | hx
      · simp
      · have := ih x hx; simp; omega
    · split at hx
      · simp at hx; subst hx; simp
      · rename_i h t e
        rcases List.mem_cons.1 hx with rfl | hx
        · have := ih h (by rw [e]; simp); simp; omega
        · have := ih x (by rw [e]; simp [hx]); simp; omega
theorem chop_count (c : UInt8) (s : List UInt8) : (chop c s).length ≤ s.length + 1 := by
  induction s with
  | nil => simp [chop]
  | cons b l ih =>
    rw [chop]
    split
    · simp; omega
    · split
      · simp
      · rename_i h t e
        rw [e] at ih
        simp at ih ⊢
        omega
theorem cut_le2 (w sep : List UInt8) : (Lib.cut w sep).1.length ≤ w.length ∧ (Lib.cut w sep).2.1.length ≤ w.length := by
  unfold Lib.cut
  split
  · simp; omega
  · simp
theorem parse_two (l : List UInt8) : (∃ c, parse l = (c, 0)) ∨ parse l = (0, 3) := by
  unfold parse
  split
  · exact .inr rfl
  · split
    · exact .inr rfl
    · split
      · exact .inl ⟨_, rfl⟩
      · exact .inr rfl
/-- the bytes of digits -/
theorem hx_byte (k c : Nat) : ∀ b ∈ hx k c, ∃ d, d < 16 ∧ b = dg d := by
  induction k with
  | zero => intro b hb; simp [hx] at hb
  | succ k ih =>
    intro b hb
    rw [hx] at hb
    rcases List.mem_cons.1 hb with rfl | hb
    · exact ⟨_, Nat.mod_lt _ (by omega), rfl⟩
    · exact ih b hb
theorem hex_byte {c : Int} {b : UInt8} (h : b ∈ hexS c) : b ≠ 32 ∧ b ≠ 46 := by
  unfold hexS at h
  split at h
  · obtain ⟨d, hd, rfl⟩ := hx_byte _ _ b h
    have : ∀ d, d < 16 → dg d ≠ 32 ∧ dg d ≠ 46 := by decide
    exact this d hd
  · simp at h
theorem hex_len {c : Int} (h : 0 ≤ c ∧ c ≤ 1114111) : 4 ≤ (hexS c).length ∧ (hexS c).length ≤ 6 := by
  unfold hexS
  rw [if_pos h, hx_len]
  unfold nd
  split
  · omega
  · split <;> omega
def word (r : Rg) : List UInt8 := hexS r.1 ++ if r.1 = r.2 then [] else 46 :: 46 :: hexS r.2
theorem word_one {r : Rg} (h : r.1 = r.2) : word r = hexS r.1 := by unfold word; rw [if_pos h, List.append_nil]
theorem word_two {r : Rg} (h : r.1 ≠ r.2) : word r = hexS r.1 ++ 46 :: 46 :: hexS r.2 := by unfold word; rw [if_neg h]
theorem word_len {r : Rg} (h : inside r) : 4 ≤ (word r).length ∧ (word r).length ≤ 14 := by
  obtain ⟨h1, h2, h3⟩ := h
  have a := hex_len (c := r.1) ⟨h1, by omega⟩
  have b := hex_len (c := r.2) ⟨by omega, h3⟩
  unfold word
  split
  · simp; omega
  · simp; omega
theorem word_sp {r : Rg} : (32 : UInt8) ∉ word r := by
  intro h
  unfold word at h
  rcases List.mem_append.1 h with h | h
  · exact (hex_byte h).1 rfl
  · split at h
    · simp at h
    · simp only [List.mem_cons] at h
      rcases h with h | h | h
      · exact absurd h (by decide)
      · exact absurd h (by decide)
      · exact (hex_byte h).1 rfl
def textR (l : List Rg) : List UInt8 := Lib.join (l.map word) [32]
theorem textR_nil : textR [] = [] := rfl
theorem textR_chop {l : List Rg} (h : l ≠ []) : chop 32 (textR l) = l.map word :=
  chop_join (by simpa using h) (fun x hx => by obtain ⟨r, _, rfl⟩ := List.mem_map.1 hx; exact word_sp)
theorem textR_cons (r : Rg) (l : List Rg) : textR (r :: l) = word r ++ Lib.joinTail [32] (l.map word) := by
  unfold textR
  rw [List.map_cons, Lib.join_cons]
theorem textR_one (r : Rg) : textR [r] = word r := by rw [textR_cons]; simp [Lib.joinTail]
theorem textR_snoc {l : List Rg} (h : l ≠ []) (r : Rg) : textR (l ++ [r]) = textR l ++ 32 :: word r := by
  cases l with
  | nil => exact absurd rfl h
  | cons s l =>
    rw [List.cons_append, textR_cons, textR_cons]
    simp [Lib.joinTail]
theorem lens_le {l : List Rg} (h : ∀ r ∈ l, inside r) : Lib.lens (l.map word) ≤ l.length * 14 := by
  induction l with
  | nil => simp [Lib.lens]
  | cons r l ih =>
    have h1 := word_len (h r (by simp))
    have h2 := ih (fun s hs => h s (by simp [hs]))
    simp only [Lib.lens, List.map_cons, List.sum_cons, List.length_cons] at h2 ⊢
    omega
theorem textR_len {l : List Rg} (h : ∀ r ∈ l, inside r) : (textR l).length ≤ l.length * 15 := by
  cases l with
  | nil => simp [textR_nil]
  | cons r l =>
    have := lens_le h
    unfold textR
    rw [List.map_cons, Lib.join_length]
    simp only [List.map_cons, List.length_cons, List.length_map, List.length_nil] at this ⊢
    omega
theorem textR_pos {r : Rg} {l : List Rg} (h : inside r) : textR (r :: l) ≠ [] := by
  have := (word_len h).1
  rw [textR_cons]
  intro e
  have e2 := congrArg List.length e
  rw [List.length_append] at e2
  simp only [List.length_nil] at e2
  omega
/-- a word, as the program reads it -/
def pLast (w : List UInt8) : List UInt8 := if (Lib.cut w [46, 46]).2.2 then (Lib.cut w [46, 46]).2.1 else (Lib.cut w [46, 46]).1
def pOne (w : List UInt8) : Option Rg := if (parse (Lib.cut w [46, 46]).1).2 = 0 ∧ (parse (pLast w)).2 = 0 then some ((parse (Lib.cut w [46, 46]).1).1, (parse (pLast w)).1) else none
theorem occ2 {s : List UInt8} {j : Nat} (h : Lib.occAt s [46, 46] j = true) : s[j]? = some 46 := Lib.occAt_head rfl h
theorem cut_one {r : Rg} (h : r.1 = r.2) : Lib.cut (word r) [46, 46] = (hexS r.1, [], false) := by
  rw [word_one h]
  have hi : Lib.index (hexS r.1) [46, 46] = -1 := Lib.index_none (fun j _ => by
    cases ho : Lib.occAt (hexS r.1) [46, 46] j with
    | false => rfl
    | true => exact absurd rfl (hex_byte (List.mem_of_getElem? (occ2 ho))).2)
  unfold Lib.cut
  rw [hi, if_neg (by omega)]
theorem cut_two {r : Rg} (h : r.1 ≠ r.2) : Lib.cut (word r) [46, 46] = (hexS r.1, hexS r.2, true) := by
  rw [word_two h]
  have hi : Lib.index (hexS r.1 ++ 46 :: 46 :: hexS r.2) [46, 46] = (hexS r.1).length := Lib.index_first (by simp) (by simp [Lib.occAt]) (fun j hj => by
    cases ho : Lib.occAt (hexS r.1 ++ 46 :: 46 :: hexS r.2) [46, 46] j with
    | false => rfl
    | true =>
      have := occ2 ho
      rw [List.getElem?_append_left hj] at this
      exact absurd rfl (hex_byte (List.mem_of_getElem? this)).2)
  unfold Lib.cut
  rw [hi, if_pos (by omega)]
  simp
theorem pOne_word {r : Rg} (h : inside r) : pOne (word r) = some r := by
  obtain ⟨h1, h2, h3⟩ := h
  have a := parse_hex r.1 ⟨h1, by omega⟩
  have b := parse_hex r.2 ⟨by omega, h3⟩
  unfold pOne pLast
  by_cases e : r.1 = r.2
  · rw [cut_one e]
    simp [e, b]
    exact Prod.ext e.symm rfl
  · rw [cut_two e]
    simp [a, b]
/-- a word, as the reference reads it -/
def rOne (w : List UInt8) : Option Rg := if (parse ((chop 46 w).headD [])).2 = 0 ∧ (parse ((chop 46 w).getLastD [])).2 = 0 then some ((parse ((chop 46 w).headD [])).1, (parse ((chop 46 w).getLastD [])).1) else none
theorem hex_nodot (c : Int) : (46 : UInt8) ∉ hexS c := fun h => (hex_byte h).2 rfl
theorem rOne_word {r : Rg} (h : inside r) : rOne (word r) = some r := by
  obtain ⟨h1, h2, h3⟩ := h
  have a := parse_hex r.1 ⟨h1, by omega⟩
  have b := parse_hex r.2 ⟨by omega, h3⟩
  unfold rOne
  by_cases e : r.1 = r.2
  · rw [word_one e, chop_none (hex_nodot _)]
    simp [e, b]
    exact Prod.ext e.symm rfl
  · rw [word_two e, chop_hit (hex_nodot _), chop, if_pos rfl, chop_none (hex_nodot _)]
    simp [a, b]
theorem can_inside {lo : Int} {l : List Rg} (h : CanFrom lo l) (h0 : 0 ≤ lo) : ∀ r ∈ l, inside r := by
  induction l generalizing lo with
  | nil => intro r hr; cases hr
  | cons s l ih =>
    obtain ⟨h1, h2, h3, h4⟩ := h
    intro r hr
    rcases List.mem_cons.1 hr with rfl | hr
    · exact ⟨by omega, h2, h3⟩
    · exact ih h4 (by omega) r hr
theorem cnn_inside {l : List Rg} (h : Cnn l) : ∀ r ∈ l, inside r := can_inside h (Int.le_refl _)
theorem map_word {f : List UInt8 → Option Rg} (hf : ∀ r, inside r → f (word r) = some r) {l : List Rg} (h : ∀ r ∈ l, inside r) : (l.map word).map f = l.map some := by
  induction l with
  | nil => rfl
  | cons r l ih =>
    rw [List.map_cons, List.map_cons, List.map_cons, hf r (h r (by simp)), ih (fun s hs => h s (by simp [hs]))]
theorem map_some_inj {a b : List Rg} (h : a.map some = b.map some) : a = b := by
  induction a generalizing b with
  | nil =>
    cases b with
    | nil => rfl
    | cons s b => simp at h
  | cons r a ih =>
    cases b with
    | nil => simp at h
    | cons s b =>
      simp only [List.map_cons, List.cons.injEq, Option.some.injEq] at h
      rw [h.1, ih h.2]
/-- What reading a text comes to: the valid set with this text and 0, or nothing and 3. -/
def ParseOut (s : List UInt8) (c : List Rg) (e : Int) : Prop := (e = 0 ∧ Cnn c ∧ textR c = s) ∨ (e = 3 ∧ c = [] ∧ ¬ ∃ c', Cnn c' ∧ textR c' = s)
theorem text_inj {a b : List Rg} (ha : Cnn a) (hb : Cnn b) (h : textR a = textR b) : a = b := by
  cases a with
  | nil =>
    cases b with
    | nil => rfl
    | cons s b => exact absurd h.symm (textR_pos (cnn_inside hb s (by simp)))
  | cons r a =>
    cases b with
    | nil => exact absurd h (textR_pos (cnn_inside ha r (by simp)))
    | cons s b =>
      have e1 := textR_chop (l := r :: a) (by simp)
      have e2 := textR_chop (l := s :: b) (by simp)
      rw [h, e2] at e1
      have e3 := congrArg (List.map pOne) e1
      rw [map_word (fun r => pOne_word) (cnn_inside ha), map_word (fun r => pOne_word) (cnn_inside hb)] at e3
      exact (map_some_inj e3).symm
theorem parse_unique {s : List UInt8} {a b : List Rg} {e f : Int} (h : ParseOut s a e) (h' : ParseOut s b f) : a = b ∧ e = f := by
  rcases h with ⟨rfl, h1, h2⟩ | ⟨rfl, rfl, h1⟩ <;> rcases h' with ⟨rfl, g1, g2⟩ | ⟨rfl, rfl, g1⟩
  · exact ⟨text_inj h1 g1 (h2.trans g2.symm), rfl⟩
  · exact absurd ⟨a, h1, h2⟩ g1
  · exact absurd ⟨b, g1, g2⟩ h1
  · exact ⟨rfl, rfl⟩
/-- reading fails: some word is none -/
theorem parse_bad {f : List UInt8 → Option Rg} (hf : ∀ r, inside r → f (word r) = some r) {s : List UInt8} (hs : s ≠ []) {w : List UInt8} (hw : w ∈ chop 32 s) (hn : f w = none) : ParseOut s [] 3 := by
  refine .inr ⟨rfl, rfl, ?_⟩
  rintro ⟨c, hc, rfl⟩
  have hne : c ≠ [] := fun e => hs (by rw [e]; rfl)
  rw [textR_chop hne] at hw
  obtain ⟨r, hr, rfl⟩ := List.mem_map.1 hw
  rw [hf r (cnn_inside hc r hr)] at hn
  cases hn
/-- reading goes through, to ps -/
theorem parse_ps {f : List UInt8 → Option Rg} (hf : ∀ r, inside r → f (word r) = some r) {s : List UInt8} (hs : s ≠ []) {ps : List Rg} (hp : (chop 32 s).map f = ps.map some) {c : List Rg} (hc : Cnn c) (ht : textR c = s) : c = ps := by
  subst ht
  have hne : c ≠ [] := fun e => hs (by rw [e]; rfl)
  rw [textR_chop hne, map_word hf (cnn_inside hc)] at hp
  exact map_some_inj hp
/-- the program's way: m is the valid set of ps -/
theorem parse_prog {s : List UInt8} (hs : s ≠ []) {ps m : List Rg} (hp : (chop 32 s).map pOne = ps.map some) (hm : Cnn m) (hh : ∀ x, hasP m x ↔ hasP ps x) : (textR m = s → ParseOut s m 0) ∧ (textR m ≠ s → ParseOut s [] 3) := by
  refine ⟨fun h => .inl ⟨rfl, hm, h⟩, fun h => .inr ⟨rfl, rfl, ?_⟩⟩
  rintro ⟨c, hc, ht⟩
  obtain rfl := parse_ps (fun r => pOne_word) hs hp hc ht
  exact h ((can_eq hm hc hh) ▸ ht)
/-- the reference's way -/
theorem parse_ref {s : List UInt8} (hs : s ≠ []) {ps : List Rg} (hp : (chop 32 s).map rOne = ps.map some) : (Cnn ps → textR ps = s → ParseOut s ps 0) ∧ (¬ (Cnn ps ∧ textR ps = s) → ParseOut s [] 3) := by
  refine ⟨fun h h' => .inl ⟨rfl, h, h'⟩, fun h => .inr ⟨rfl, rfl, ?_⟩⟩
  rintro ⟨c, hc, ht⟩
  obtain rfl := parse_ps (fun r => rOne_word) hs hp hc ht
  exact h ⟨hc, ht⟩
theorem parse_empty : ParseOut [] [] 0 := .inl ⟨rfl, trivial, rfl⟩
end Go.UtYtogfhaeohcpkjaaDoor
