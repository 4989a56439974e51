/-
  Plain: the rests of a pattern: few, short, closed.
  Sets of rests that grow; ref29.after, afterAll.
  Slices of things, and slices of these: memory laws over whatever the things are.
  Four rows of a call's own that grow side by side; what they hold lies apart from all of them, and from the blocks of E0.
-/
import Derived.Test.YtkoojoogddndnaaPf0
import Derived.Test.YtkoojoogddndnaaPf7
namespace Go.UtYtkoojoogddndnaa
mutual
/-- what can remain of a pattern -/
def pdL : Pat → List (List Pat)
  | .mk k c s => if k = 1 then [[]] else if k = 2 then pdCat s else if k = 3 then pdAlt s else if k = 4 then pdStar (.mk k c s) s else []
/-- what can remain of patterns, one after the other -/
def pdCat : List Pat → List (List Pat)
  | [] => []
  | q :: s => (pdL q).map (· ++ s) ++ pdCat s
/-- what can remain of one of them -/
def pdAlt : List Pat → List (List Pat)
  | [] => []
  | q :: s => pdL q ++ pdAlt s
/-- of the only one, and the pattern again -/
def pdStar (p : Pat) : List Pat → List (List Pat)
  | [] => []
  | q :: s => if s = [] then (pdL q).map (· ++ [p]) else []
end
theorem pdCat_append : ∀ (a b : List Pat), pdCat (a ++ b) = (pdCat a).map (· ++ b) ++ pdCat b
  | [], b => by simp [pdCat]
  | q :: a, b => by
    rw [List.cons_append, pdCat, pdCat, pdCat_append a b]
    simp [List.map_append, List.append_assoc]
theorem pdCat_one (p : Pat) : pdCat [p] = pdL p := by
  rw [pdCat, pdCat]
  simp
mutual
theorem pd_closP : ∀ (p : Pat), ∀ d ∈ pdL p, ∀ e ∈ pdCat d, e ∈ pdL p
  | .mk k c s => by
    intro d hd e he
    rw [pdL] at hd
    by_cases h1 : k = 1
    · rw [if_pos h1] at hd
      simp at hd
      subst hd
      rw [pdCat] at he
      cases he
    rw [if_neg h1] at hd
    by_cases h2 : k = 2
    · rw [if_pos h2] at hd
      rw [pdL, if_neg h1, if_pos h2]
      exact pd_closC s d hd e he
    rw [if_neg h2] at hd
    by_cases h3 : k = 3
    · rw [if_pos h3] at hd
      rw [pdL, if_neg h1, if_neg h2, if_pos h3]
      exact pd_closA s d hd e he
    rw [if_neg h3] at hd
    by_cases h4 : k = 4
    · rw [if_pos h4] at hd
      have hp : pdL (.mk k c s) = pdStar (.mk k c s) s := by rw [pdL, if_neg h1, if_neg h2, if_neg h3, if_pos h4]
      rw [hp]
      exact pd_closS (.mk k c s) s hp s rfl d hd e he
    · rw [if_neg h4] at hd
      cases hd
theorem pd_closC : ∀ (s : List Pat), ∀ d ∈ pdCat s, ∀ e ∈ pdCat d, e ∈ pdCat s
  | [] => by
    intro d hd
    rw [pdCat] at hd
    cases hd
  | q :: s => by
    intro d hd e he
    rw [pdCat, List.mem_append] at hd
    rw [pdCat, List.mem_append]
    rcases hd with hd | hd
    · obtain ⟨d', h1, rfl⟩ := List.mem_map.1 hd
      rw [pdCat_append, List.mem_append] at he
      rcases he with he | he
      · obtain ⟨e', h2, rfl⟩ := List.mem_map.1 he
        exact .inl (List.mem_map.2 ⟨e', pd_closP q d' h1 e' h2, rfl⟩)
      · exact .inr he
    · exact .inr (pd_closC s d hd e he)
theorem pd_closA : ∀ (s : List Pat), ∀ d ∈ pdAlt s, ∀ e ∈ pdCat d, e ∈ pdAlt s
  | [] => by
    intro d hd
    rw [pdAlt] at hd
    cases hd
  | q :: s => by
    intro d hd e he
    rw [pdAlt, List.mem_append] at hd ⊢
    rcases hd with hd | hd
    · exact .inl (pd_closP q d hd e he)
    · exact .inr (pd_closA s d hd e he)
theorem pd_closS (p : Pat) (s0 : List Pat) (hp : pdL p = pdStar p s0) : ∀ (s : List Pat), s0 = s → ∀ d ∈ pdStar p s, ∀ e ∈ pdCat d, e ∈ pdStar p s
  | [] => by
    intro _ d hd
    rw [pdStar] at hd
    cases hd
  | q :: s => by
    intro hs d hd e he
    subst hs
    have hp' := hp
    rw [pdStar] at hd ⊢
    rw [pdStar] at hp'
    by_cases hs : s = []
    · rw [if_pos hs] at hd hp' ⊢
      obtain ⟨d', h1, rfl⟩ := List.mem_map.1 hd
      rw [pdCat_append, List.mem_append, pdCat_one, hp'] at he
      rcases he with he | he
      · obtain ⟨e', h2, rfl⟩ := List.mem_map.1 he
        exact List.mem_map.2 ⟨e', pd_closP q d' h1 e' h2, rfl⟩
      · exact he
    · rw [if_neg hs] at hd
      cases hd
end
theorem nodes_pos (p : Pat) : 1 ≤ nodes p := by rw [nodes_eq]; omega
theorem nodesL_len : ∀ s : List Pat, s.length ≤ nodesL s
  | [] => by simp [nodesL]
  | q :: s => by
    have := nodesL_len s
    have := nodes_pos q
    rw [nodesL]
    simp
    omega
mutual
theorem pd_few : ∀ (p : Pat), (pdL p).length ≤ nodes p ∧ ∀ d ∈ pdL p, d.length ≤ nodes p
  | .mk k c s => by
    rw [pdL, nodes]
    by_cases h1 : k = 1
    · rw [if_pos h1]
      simp
    rw [if_neg h1]
    by_cases h2 : k = 2
    · rw [if_pos h2]
      obtain ⟨a, b⟩ := pd_fewC s
      exact ⟨by omega, fun d hd => by have := b d hd; omega⟩
    rw [if_neg h2]
    by_cases h3 : k = 3
    · rw [if_pos h3]
      obtain ⟨a, b⟩ := pd_fewA s
      exact ⟨by omega, fun d hd => by have := b d hd; omega⟩
    rw [if_neg h3]
    by_cases h4 : k = 4
    · rw [if_pos h4]
      obtain ⟨a, b⟩ := pd_fewS (.mk k c s) s
      exact ⟨by omega, fun d hd => by have := b d hd; omega⟩
    · rw [if_neg h4]
      simp
theorem pd_fewC : ∀ (s : List Pat), (pdCat s).length ≤ nodesL s ∧ ∀ d ∈ pdCat s, d.length ≤ nodesL s
  | [] => by
    rw [pdCat, nodesL]
    simp
  | q :: s => by
    obtain ⟨a, b⟩ := pd_few q
    obtain ⟨a', b'⟩ := pd_fewC s
    have hl := nodesL_len s
    rw [pdCat, nodesL]
    refine ⟨by rw [List.length_append, List.length_map]; omega, fun d hd => ?_⟩
    rcases List.mem_append.1 hd with hd | hd
    · obtain ⟨d', h1, rfl⟩ := List.mem_map.1 hd
      have := b d' h1
      rw [List.length_append]
      omega
    · have := b' d hd
      omega
theorem pd_fewA : ∀ (s : List Pat), (pdAlt s).length ≤ nodesL s ∧ ∀ d ∈ pdAlt s, d.length ≤ nodesL s
  | [] => by
    rw [pdAlt, nodesL]
    simp
  | q :: s => by
    obtain ⟨a, b⟩ := pd_few q
    obtain ⟨a', b'⟩ := pd_fewA s
    rw [pdAlt, nodesL]
    refine ⟨by rw [List.length_append]; omega, fun d hd => ?_⟩
    rcases List.mem_append.1 hd with hd | hd
    · have := b d hd
      omega
    · have := b' d hd
      omega
theorem pd_fewS (p : Pat) : ∀ (s : List Pat), (pdStar p s).length ≤ nodesL s ∧ ∀ d ∈ pdStar p s, d.length ≤ nodesL s + 1
  | [] => by
    rw [pdStar, nodesL]
    simp
  | q :: s => by
    obtain ⟨a, b⟩ := pd_few q
    rw [pdStar, nodesL]
    by_cases hs : s = []
    · rw [if_pos hs]
      refine ⟨by rw [List.length_map]; omega, fun d hd => ?_⟩
      obtain ⟨d', h1, rfl⟩ := List.mem_map.1 hd
      have := b d' h1
      rw [List.length_append]
      simp
      omega
    · rw [if_neg hs]
      simp
end
/-- what a state holds of a pattern -/
def univ (p : Pat) : List (List Pat) := [p] :: pdL p
theorem univ_len (p : Pat) : (univ p).length ≤ nodes p + 1 := by
  have := (pd_few p).1
  simp [univ]
  omega
theorem univ_short {p : Pat} {r : List Pat} (h : r ∈ univ p) : r.length ≤ nodes p := by
  have h1 := nodes_pos p
  rcases List.mem_cons.1 h with h | h
  · subst h
    simpa using h1
  · exact (pd_few p).2 r h
theorem univ_clos {p : Pat} {r e : List Pat} (h : r ∈ univ p) (he : e ∈ pdCat r) : e ∈ univ p := by
  refine List.mem_cons_of_mem _ ?_
  rcases List.mem_cons.1 h with h | h
  · subst h
    rwa [pdCat_one] at he
  · exact pd_closP p r h e he
theorem nodup_len {α : Type} : ∀ {l U : List α}, l.Nodup → (∀ x ∈ l, x ∈ U) → l.length ≤ U.length
  | [], U, _, _ => by simp
  | x :: l, U, hn, hs => by
    classical
    obtain ⟨h1, h2⟩ := List.nodup_cons.1 hn
    have hx := hs x (by simp)
    have hl : l.length ≤ (U.erase x).length := nodup_len h2 (fun y hy => by
      have hne : y ≠ x := fun e => h1 (e ▸ hy)
      exact (List.mem_erase_of_ne hne).2 (hs y (by simp [hy])))
    have he := List.length_erase_of_mem hx
    have hp := List.length_pos_of_mem hx
    simp
    omega
end Go.UtYtkoojoogddndnaa
namespace Go.UtYtkoojoogddndnaa
open Go.RowKit
/-- the block that a slice lies in -/
def OwnE (A : Option Addr) : Nat → Prop := fun b => (Value.slice A 0 0).ownBlock = some b
/-- the blocks of E, and the block that a slice lies in -/
def OwnX (E : Nat → Prop) (A : Option Addr) : Nat → Prop := fun b => E b ∨ OwnE A b
/-- a set of rests, in a row of the call's own, all outside of the blocks of E -/
def SetAt (E : Nat → Prop) (w : World) (B : Nat) (A : Option Addr) (c : Nat) (S : List (List Pat)) : Prop :=
  ((∀ b, E b → b < B) ∧ B ≤ w.heap.size) ∧ ∃ vs, w.ownsRow B 75 1 (.slice A S.length c) S.length vs ∧ RsAt (era w (OwnX E A)) w.heap.size vs S
/-- the call returns a set, a part of U, without doubles -/
def RetSt (E : Nat → Prop) (U : List (List Pat)) (B : Nat) (A0 : Option Addr) (w : World) (e : Ending) (w' : World) : Prop :=
  ∃ A c S, e = .returned (.slice A S.length c) ∧ SetAt E w' B A c S ∧ (S.Nodup ∧ ∀ x ∈ S, x ∈ U) ∧ Kept B (OwnX E A0) w w' ∧ Grew w (OwnX E A0) (OwnX E A)
theorem own_size {n : Nat} (A : Option Addr) (c : Nat) : (Value.slice A n c).ownBlock = (Value.slice A 0 0).ownBlock := by cases A <;> rfl
theorem SetAt.after {E : Nat → Prop} {w w' : World} {B : Nat} {A : Option Addr} {c : Nat} {S : List (List Pat)} (h : SetAt E w B A c S) (hb : Below w.heap.size w w') : SetAt E w' B A c S := by
  obtain ⟨⟨h0, h0'⟩, vs, h1, h2⟩ := h
  exact ⟨⟨h0, Nat.le_trans h0' hb.size⟩, vs, ow_below h1 hb, (h2.era_keep (fun b hb' _ => hb.block b hb') (fun _ _ h => h)).more hb.size⟩
theorem PsAt.kept {w w' : World} {B : Nat} {E E' : Nat → Prop} {A : Option Addr} {c : Nat} {ps : List Pat} (h : PsAt (era w E) w.heap.size A c ps) (hk : Kept B E w w') (hg : Grew w E E') : PsAt (era w' E') w'.heap.size A c ps :=
  (h.era_keep (fun b hb hE => hk.2 b hb hE) (fun b hb hE => (hg b hE).resolve_right (by omega))).more hk.1.size
theorem PsAt.era_below' {w : World} {E : Nat → Prop} {B c : Nat} {A : Option Addr} {ps : List Pat} (h : PsAt w B A c ps) (he : ∀ b, E b → B ≤ b) : PsAt (era w E) B A c ps := by
  obtain ⟨h1, us, h2, h3⟩ := h
  exact ⟨h1, us, h2.era_below he, PatsAt.keep (fun _ _ h => h.era_below he) ps us h3⟩
theorem PsAt.keptB {w w' : World} {E : Nat → Prop} {A : Option Addr} {c : Nat} {ps : List Pat} (h : PsAt (era w E) w.heap.size A c ps) (hb : Below w.heap.size w w') : PsAt (era w' E) w'.heap.size A c ps :=
  (h.era_keep (fun b hb' _ => hb.block b hb') (fun _ _ h => h)).more hb.size
end Go.UtYtkoojoogddndnaa
namespace Go.UtYtkoojoogddndnaa
open Go.RowKit
section
variable {w : World} {B : Nat}
theorem PatsAt.drop : ∀ {l : List Pat} {us : List Value}, PatsAt w B l us → ∀ k, PatsAt w B (l.drop k) (us.drop (k * 3))
  | [], us, h, k => by
    rw [PatsAt] at h
    subst h
    simp [PatsAt]
  | p :: l, us, h, 0 => by simpa using h
  | p :: l, us, h, k + 1 => by
    rw [PatsAt] at h
    obtain ⟨a, r, rfl, h2, h3, h4⟩ := h
    have := PatsAt.drop h4 k
    have e : (a ++ r).drop ((k + 1) * 3) = r.drop (k * 3) := by
      rw [List.drop_append, List.drop_eq_nil_of_le (show a.length ≤ (k + 1) * 3 by omega), List.nil_append, show (k + 1) * 3 - a.length = k * 3 by omega]
    rw [List.drop_succ_cons, e]
    exact this
theorem PatsAt.append : ∀ {a b : List Pat} {us vs : List Value}, PatsAt w B a us → PatsAt w B b vs → PatsAt w B (a ++ b) (us ++ vs)
  | [], b, us, vs, h, h' => by
    rw [PatsAt] at h
    subst h
    simpa using h'
  | p :: a, b, us, vs, h, h' => by
    rw [PatsAt] at h
    obtain ⟨x, r, rfl, h2, h3, h4⟩ := h
    rw [List.cons_append, PatsAt]
    exact ⟨x, r ++ vs, by simp, h2, h3, PatsAt.append h4 h'⟩
theorem PatAt.one : ∀ {p : Pat} {us : List Value}, PatAt w B p us → ∀ u ∈ us, u.oneCell' = true
  | .mk k c s, us, h => by
    rw [PatAt] at h
    obtain ⟨A, ca, A', cs, vs, rfl, _⟩ := h
    intro u hu
    simp at hu
    rcases hu with rfl | rfl | rfl <;> rfl
theorem PatsAt.one : ∀ {l : List Pat} {us : List Value}, PatsAt w B l us → ∀ u ∈ us, u.oneCell' = true
  | [], us, h => by
    rw [PatsAt] at h
    subst h
    simp
  | p :: l, us, h => by
    rw [PatsAt] at h
    obtain ⟨a, r, rfl, h2, h3, h4⟩ := h
    intro u hu
    rcases List.mem_append.1 hu with hu | hu
    · exact h3.one u hu
    · exact PatsAt.one h4 u hu
end
end Go.UtYtkoojoogddndnaa
namespace Go.Proofs.Ytkoojoogddndnaa
open Go.RowKit Go.UtYtkoojoogddndnaa
attribute [local go_sem high] cut_l
theorem own_mt' (w : World) (t e : TypeId) (size : Nat) (h : t = e) : (w.alloc (.cells #[] t)).ownsRow w.heap.size e size (.slice (some ⟨w.heap.size, 0, none⟩) 0 0) 0 [] := by
  subst h
  exact ⟨by simp, .inr ⟨w.heap.size, 0, #[], rfl, Nat.le_refl _, heap_alloc_new w _, Nat.le_refl _, by simp [maxLen], by simp, by simp⟩⟩
theorem pat_info : (Try.prog.info? 77).map (fun i => (i.zero, i.size, i.bytes)) = some (some (.agg #[.int .i64 0, .slice none 0 0, .slice none 0 0]), 3, 56) := by kernel_rfl
theorem pts_info : (Try.prog.info? 75).map (fun i => (i.zero, i.size, i.bytes)) = some (some (.slice none 0 0), 1, 24) := by kernel_rfl
def AfterOk (p : Pat) : Prop := ∀ (E : Nat → Prop) (U S : List (List Pat)) (A : Option Addr) (c n : Nat) (A1 : Option Addr) (c1 : Nat) (A2 : Option Addr) (c2 : Nat) (x : Int) (At : Option Addr) (ct nt : Nat) (tail : List Pat) (B : Nat) (w : World),
  SetAt E w B A c S → S.length = n → (S.Nodup ∧ ∀ r ∈ S, r ∈ U) → U.length ≤ 1000 → B ≤ w.heap.size → PvAt (era w (OwnX E A)) w.heap.size p A1 c1 A2 c2 → PsAt (era w (OwnX E A)) w.heap.size At ct tail → tail.length = nt → nt + nodes p ≤ 1000 → (∀ d ∈ pdL p, d ++ tail ∈ U) →
    Calls Try.prog 102 #[.slice A n c, .agg #[.int .i64 p.kind, .slice A1 p.cls.length c1, .slice A2 p.subs.length c2], .int .i64 x, .slice At nt ct] w (RetSt E U B A w)
theorem pdCat_at : ∀ {l : List Pat} {i : Nat} {q : Pat}, l[i]? = some q → ∀ d ∈ pdL q, d ++ l.drop (i + 1) ∈ pdCat l
  | [], i, q, h => by simp at h
  | p :: l, 0, q, h => by
    intro d hd
    simp at h
    subst h
    rw [pdCat]
    exact List.mem_append_left _ (List.mem_map.2 ⟨d, hd, by simp⟩)
  | p :: l, i + 1, q, h => by
    intro d hd
    rw [pdCat]
    exact List.mem_append_right _ (by simpa using pdCat_at (l := l) (i := i) (by simpa using h) d hd)
theorem own_ge {E : Nat → Prop} {w : World} {B : Nat} {A : Option Addr} {c : Nat} {S : List (List Pat)} (h : SetAt E w B A c S) : ∀ b, OwnE A b → b < w.heap.size ∧ B ≤ b := fun b hb => by
  obtain ⟨_, vs, h1, _⟩ := h
  rcases h1.2 with ⟨h2, _⟩ | ⟨g, cap, cur, h2, h3, h4, _⟩
  · injection h2 with h2
    subst h2
    simp [OwnE, Value.ownBlock] at hb
  · injection h2 with h2
    subst h2
    have : g = b := by simpa [OwnE, Value.ownBlock] using hb
    subst this
    exact ⟨(Array.getElem?_eq_some_iff.1 h4).1, h3⟩
theorem own_lt {E : Nat → Prop} {w : World} {B : Nat} {A : Option Addr} {c : Nat} {S : List (List Pat)} (h : SetAt E w B A c S) : ∀ b, OwnX E A b → b < w.heap.size := fun b hb => by
  rcases hb with hb | hb
  · have := h.1.1 b hb
    have := h.1.2
    omega
  · exact (own_ge h b hb).1
theorem nodesL_get : ∀ {l : List Pat} {i : Nat} {q : Pat}, l[i]? = some q → nodes q + (l.drop (i + 1)).length ≤ nodesL l
  | [], i, q, h => by simp at h
  | p :: l, 0, q, h => by
    simp at h
    subst h
    have := nodesL_len l
    rw [nodesL]
    simp
    omega
  | p :: l, i + 1, q, h => by
    have := nodesL_get (l := l) (i := i) (by simpa using h)
    rw [nodesL]
    simp at this ⊢
    omega
set_option maxRecDepth 100000 in
set_option maxHeartbeats 4000000 in
theorem afterAll_of (l : List Pat) (hl : ∀ q ∈ l, AfterOk q) (E : Nat → Prop) (U S : List (List Pat)) (A : Option Addr) (c n : Nat) (Al : Option Addr) (cl nl : Nat) (x : Int) (At : Option Addr) (ct nt : Nat) (tail : List Pat) (B : Nat) (w : World)
    (hS : SetAt E w B A c S) (hSn : S.length = n) (hSU : S.Nodup ∧ ∀ r ∈ S, r ∈ U) (hU : U.length ≤ 1000) (hB : B ≤ w.heap.size) (hL : PsAt (era w (OwnX E A)) w.heap.size Al cl l) (hln : l.length = nl) (hT : PsAt (era w (OwnX E A)) w.heap.size At ct tail) (htn : tail.length = nt) (hbd : nt + nodesL l ≤ 1000) (hpd : ∀ d ∈ pdCat l, d ++ tail ∈ U) :
    Calls Try.prog 86 #[.slice A n c, .slice Al nl cl, .int .i64 x, .slice At nt ct] w (RetSt E U B A w) := by
  obtain ⟨i0, hi0, hz0, hz1, hz2⟩ := info_parts pat_info
  have IH := Lib.hid hl
  have HL := Lib.hid hL
  have HT := Lib.hid hT
  have HLN := Lib.hid hln
  have HTN := Lib.hid htn
  have HPD := Lib.hid hpd
  have HS0 := Lib.hid hS
  have HSU := Lib.hid hSU
  have HK0 : Hid (Kept B (OwnX E A) w w) := Kept.refl _ _
  have HG0 : Hid (Grew w (OwnX E A) (OwnX E A)) := Grew.refl _ _
  have hnl := nodesL_len l
  rw [hln] at hnl
  have hlc : nl ≤ cl := by have := hL.1.1; omega
  have HSN := Lib.hid hSn
  clear hl hL hT hln htn hpd hS hSU hSn
  go_enter Try.func86, Try.ntmps86
  go_wp2
  go_loopw [0, 9] (fun sv iv wr => ∃ (j n' c' : Nat) (A' : Option Addr) (S' : List (List Pat)), j ≤ nl ∧ iv = .int .i64 (j : Int) ∧ sv = .slice A' n' c' ∧ Hid (S'.length = n') ∧ Hid (SetAt E wr B A' c' S') ∧ Hid (S'.Nodup ∧ ∀ r ∈ S', r ∈ U) ∧ Hid (Kept B (OwnX E A) w wr) ∧ Hid (Grew w (OwnX E A) (OwnX E A'))) (fun _ i _ => nl - (intOf i).toNat)
  case atStart => exact ⟨0, n, c, A, S, by omega, rfl, rfl, HSN, HS0, HSU, HK0, HG0⟩
  case round =>
    obtain ⟨j, n', c', A', S', hj, rfl, rfl, HSN', HS, HSU', HK, HG⟩ := hrel
    have hbs := HK.out.1.size
    by_cases hjn : j < nl
    · have HLr := Lib.hid (HL.out.kept HK.out HG.out)
      have HTr := Lib.hid (HT.out.kept HK.out HG.out)
      obtain ⟨hlb, us, hus, hps⟩ := HLr.out
      obtain ⟨htb, ts, hts, hpt⟩ := HTr.out
      have HUS := Lib.hid hus
      have HTS := Lib.hid hts
      have HPS := Lib.hid hps
      have HPT := Lib.hid hpt
      obtain ⟨b, o, q, B1, e1, B2, e2, rfl, hb, hq, q0', q1', q2', g1, g2, g3⟩ := HLr.out.at_ (k := j) (by rw [HLN.out]; exact hjn)
      have q0 := (era_some q0').1
      have q1 := (era_some q1').1
      have q2 := (era_some q2').1
      have HPV : Hid (PvAt (era wr (OwnX E A')) wr.heap.size q B1 e1 B2 e2) := Lib.hid ⟨g1, g2, g3⟩
      clear q0' q1' q2' g1 g2 g3
      have hbl : b < wr.heap.size := hb
      have hul := HPS.out.len
      rw [HLN.out] at hul
      have htl := HPT.out.len
      rw [HTN.out] at htl
      have HNG := Lib.hid (nodesL_get hq.out)
      obtain ⟨w1, hw1, HB1, HK1⟩ := boxV wr 77 #[]
      have HO1 : Hid (w1.ownsRow wr.heap.size 77 3 (.slice (some ⟨wr.heap.size, 0, none⟩) 0 0) 0 []) := Lib.hid (by rw [hw1]; exact own_mt' wr _ _ _ rfl)
      have HD1 : Hid (Row w1 w1.heap.size (cutA (some ⟨b, o, none⟩) cl (j + 1) 3) (us.drop ((j + 1) * 3))) := Lib.hid (by
        have := (HUS.out.of_era.below (HB1.out)).lt.cut (l := j + 1) (m := cl) (s := 3) (j := us.length) (.inl (by omega))
        rwa [List.take_of_length_le (by simp)] at this)
      have HT1 := Lib.hid (HTS.out.of_era.below HB1.out).lt
      have hdl : (us.drop ((j + 1) * 3)).length = (nl - (j + 1)) * 3 := by rw [List.length_drop, hul]; omega
      have hone1 := Lib.hid (fun u hu => HPS.out.one u (List.mem_of_mem_drop hu) : ∀ u ∈ us.drop ((j + 1) * 3), u.oneCell' = true)
      have hone2 := Lib.hid HPT.out.one
      have gc1 : j + 1 ≤ nl := by omega
      have gc2 : (j : Int) + 1 ≤ (nl : Int) := by omega
      have gc3 : (0 : Int) ≤ (j : Int) + 1 := by omega
      have gc4 : ((j : Int) + 1).toNat = j + 1 := by omega
      clear hlb htb hus hps hts hpt
      obtain ⟨qk, hqk⟩ : ∃ z, q.kind = z := ⟨_, rfl⟩
      obtain ⟨qn, hqn⟩ : ∃ z, q.cls.length = z := ⟨_, rfl⟩
      obtain ⟨qs, hqs⟩ : ∃ z, q.subs.length = z := ⟨_, rfl⟩
      rw [hqk] at q0
      rw [hqn] at q1
      rw [hqs] at q2
      have HQK := Lib.hid hqk
      have HQN := Lib.hid hqn
      have HQS := Lib.hid hqs
      clear hqk hqn hqs
      go_wp2_with (first
        | (at_builtin
           rw [← hw1]
           refine wpList_append_row _ rfl (.tmp 17) (.tmp 21) _ rfl wr.heap.size 77 i0 _ 3 56 Try.underlying75 hi0 hz0 hz1 hz2 rfl (by omega) (.slice (some ⟨wr.heap.size, 0, none⟩) 0 0) 0 [] rfl HO1.out _ _ (nl - (j + 1)) (cl - (j + 1)) (us.drop ((j + 1) * 3)) rfl hdl HD1.out hone1.out (by simp only [maxLen]; omega) (by omega) HB1.out.size ?_
           intro q3 w3 o3 g3 t3
           rw [Nat.zero_add, List.nil_append] at o3
           obtain ⟨A3, c3, rfl⟩ := ow_slice (m := nl - (j + 1)) o3 rfl
           have HB3 : Hid (Below wr.heap.size wr w3) := HB1.out.grown g3 HB1.out.size (fun g hg => by simp [Value.ownBlock] at hg; omega)
           have HO3 := Lib.hid o3
           have HT3 := Lib.hid (HTS.out.of_era.below HB3.out).lt
           clear o3 g3 t3 HO1 HD1 HT1 hw1 HK1)
        | (at_builtin
           refine wpList_append_row _ rfl (.tmp 22) (.tmp 23) _ rfl wr.heap.size 77 i0 _ 3 56 Try.underlying75 hi0 hz0 hz1 hz2 rfl (by omega) (.slice A3 (nl - (j + 1)) c3) (nl - (j + 1)) (us.drop ((j + 1) * 3)) rfl HO3.out _ _ nt ct ts rfl htl HT3.out hone2.out (by simp only [maxLen]; omega) (by omega) HB3.out.size ?_
           intro q5 w5 o5 g5 t5
           obtain ⟨A5, c5, rfl⟩ := ow_slice (m := nl - (j + 1) + nt) o5 rfl
           have HB5 : Hid (Below wr.heap.size wr w5) := HB3.out.grown g5 HB3.out.size (fun g hg => own_base HO3.out g hg)
           have HO5 := Lib.hid o5
           have q05 := (HB5.out.cell (p := ⟨b, o + j * 3, none⟩) hbl).trans q0
           have q15 := (HB5.out.cell (p := ⟨b, o + j * 3 + 1, none⟩) hbl).trans q1
           have q25 := (HB5.out.cell (p := ⟨b, o + j * 3 + 2, none⟩) hbl).trans q2
           have hbl5 : b < w5.heap.size := Nat.lt_of_lt_of_le hbl HB5.out.size
           clear o5 g5 t5 q0 q1 q2))
      have hlt := own_lt HS.out
      have HM5 : Hid (PsAt (era w5 (OwnX E A')) w5.heap.size A5 c5 (l.drop (j + 1) ++ tail)) := Lib.hid (by
        obtain ⟨r1, r2, r3⟩ := ow_row HO5.out
        refine ⟨⟨by rw [List.length_append, List.length_drop, HLN.out, HTN.out]; exact r2, r3⟩, us.drop ((j + 1) * 3) ++ ts, ow_era HO5.out (fun g hg hE => ?_), ?_⟩
        · have h1 := own_base HO5.out g hg
          have h2 := hlt g hE
          omega
        · exact PatsAt.keep (fun _ _ h => (h.era_keep (fun b hb' _ => HB5.out.block b hb') (fun _ _ h => h)).more HB5.out.size) _ _ ((HPS.out.drop (j + 1)).append HPT.out))
      have HV5 : Hid (PvAt (era w5 (OwnX E A')) w5.heap.size q B1 e1 B2 e2) := Lib.hid ⟨HPV.out.1, (HPV.out.2.1.era_keep (fun b hb' _ => HB5.out.block b hb') (fun _ _ h => h)).more HB5.out.size, HPV.out.2.2.keptB HB5.out⟩
      have HS5 := Lib.hid (HS.out.after HB5.out)
      have hbw : B ≤ wr.heap.size := Nat.le_trans hB hbs
      have hbw5 : B ≤ w5.heap.size := Nat.le_trans hbw HB5.out.size
      have HML : Hid ((l.drop (j + 1) ++ tail).length = nl - (j + 1) + nt) := Lib.hid (by rw [List.length_append, List.length_drop, HLN.out, HTN.out])
      have CQ := IH.out q (List.mem_of_getElem? hq.out) E U S' A' c' n' B1 e1 B2 e2 x A5 c5 (nl - (j + 1) + nt) (l.drop (j + 1) ++ tail) B w5 HS5.out HSN'.out HSU'.out hU hbw5 HV5.out HM5.out HML.out (by
        have := HNG.out
        rw [List.length_drop, HLN.out] at this
        omega) (fun d hd => by rw [← List.append_assoc]; exact HPD.out _ (pdCat_at hq.out d hd))
      have HK5 : Hid (Kept B (OwnX E A) w w5) := Lib.hid (HK.out.trans HG.out (Kept.below hbw HB5.out))
      rw [HQK.out, HQN.out, HQS.out] at CQ
      replace CQ := Lib.hid CQ
      refine CQ.out.mono ?_
      rintro e w6 ⟨A6, c6, S6, rfl, hS6, hSU6, hK6, hG6⟩
      have HS6 := Lib.hid hS6
      have HSU6 := Lib.hid hSU6
      have HK6 : Hid (Kept B (OwnX E A) w w6) := Lib.hid (HK5.out.trans HG.out hK6)
      have HG6 : Hid (Grew w (OwnX E A) (OwnX E A6)) := Lib.hid (Grew.trans (Nat.le_trans hbs HB5.out.size) HG.out hG6)
      obtain ⟨n6, hn6⟩ : ∃ z, S6.length = z := ⟨_, rfl⟩
      have HN6 := Lib.hid hn6
      rw [hn6]
      obtain ⟨b', o', q', D1, f1, D2, f2, hA, hb', hq', s0, s1, s2, k1, k2, k3⟩ := (HL.out.kept HK6.out HG6.out).of_era.at_ (k := j) (by rw [HLN.out]; exact hjn)
      cases hA
      obtain rfl : q = q' := by
        have h1 := hq'.out
        rw [hq.out] at h1
        exact Option.some.inj h1
      have CE := empty_any q D1 f1 D2 f2 w6 ⟨k1, k2, k3⟩
      rw [HQK.out, HQN.out, HQS.out] at CE
      rw [HQK.out] at s0
      rw [HQN.out] at s1
      rw [HQS.out] at s2
      replace CE := Lib.hid CE
      unfold RetB at CE
      clear hn6 hS6 hSU6 hK6 hG6 k1 k2 k3 q05 q15 q25
      go_wp2_with fail
      refine CE.out.mono ?_
      rintro e w7 ⟨v, rfl, hb7⟩
      have HK7 : Hid (Kept B (OwnX E A) w w7) := Lib.hid (HK6.out.trans HG6.out (Kept.below (Nat.le_trans hB HK6.out.1.size) hb7))
      have HS7 := Lib.hid (HS6.out.after hb7)
      clear hb7
      cases v
      · go_wp2
        go_ret
        refine ⟨A6, c6, S6, ?_, HS7.out, HSU6.out, HK7.out, HG6.out⟩
        rw [HN6.out]
        rfl
      · go_wp2
        go_roundw
        case rel => exact ⟨j + 1, n6, c6, A6, S6, by omega, by go_num, rfl, HN6, HS7, HSU6, HK7, HG6⟩
        case measure => simp [intOf] <;> omega
    · go_wp2
      go_ret
      refine ⟨A', c', S', ?_, HS.out, HSU'.out, HK.out, HG.out⟩
      rw [HSN'.out]
      rfl
end Go.Proofs.Ytkoojoogddndnaa
namespace Go.UtYtkoojoogddndnaa
open Go.RowKit
/-- what is said of a value and a thing holds on wherever the rows that it rests on hold on -/
def Keeps {α : Type} (P : World → Nat → Value → α → Prop) : Prop :=
  ∀ (w w' : World) (B B' : Nat), (∀ (A : Option Addr) (vs : List Value), Row w B A vs → Row w' B' A vs) → ∀ (v : Value) (x : α), P w B v x → P w' B' v x
/-- things, one in a cell each -/
def Elts {α : Type} (P : World → Nat → Value → α → Prop) (w : World) (B : Nat) (vs : List Value) (xs : List α) : Prop :=
  vs.length = xs.length ∧ ∀ (k : Nat) (x : α), xs[k]? = some x → ∃ v, vs[k]? = some v ∧ P w B v x
/-- a slice of things -/
def SlOf {α : Type} (P : World → Nat → Value → α → Prop) (w : World) (B : Nat) (v : Value) (xs : List α) : Prop :=
  ∃ A c vs, v = .slice A xs.length c ∧ (xs.length ≤ c ∧ c ≤ maxLen) ∧ Row w B A vs ∧ Elts P w B vs xs
/-- things in a row of the call's own; what they rest on lies apart from the row, and from the blocks of E -/
def OwnOf {α : Type} (E : Nat → Prop) (P : World → Nat → Value → α → Prop) (t : TypeId) (w : World) (B : Nat) (A : Option Addr) (c n : Nat) (xs : List α) : Prop :=
  xs.length = n ∧ ∃ vs, w.ownsRow B t 1 (.slice A n c) n vs ∧ Elts P (era w (OwnX E A)) w.heap.size vs xs
section
variable {α : Type} {P : World → Nat → Value → α → Prop} {w w' : World} {B B' : Nat} {E E' : Nat → Prop} {v : Value} {x : α} {vs : List Value} {xs : List α} {A : Option Addr} {c n : Nat} {t : TypeId}
theorem Keeps.below (K : Keeps P) (h : P w B v x) (hb : Below B w w') : P w' B v x := K _ _ _ _ (fun _ _ h => h.below hb) _ _ h
theorem Keeps.lt (K : Keeps P) (h : P w B v x) : P w w.heap.size v x := K _ _ _ _ (fun _ _ h => h.lt) _ _ h
theorem Keeps.more (K : Keeps P) (h : P w B v x) (hB : B ≤ B') : P w B' v x := K _ _ _ _ (fun _ _ h => h.more hB) _ _ h
theorem Keeps.of_era (K : Keeps P) (h : P (era w E) B v x) : P w B v x := K _ _ _ _ (fun _ _ h => h.of_era) _ _ h
theorem Keeps.era_keep (K : Keeps P) (h : P (era w E) B v x) (hk : ∀ b, b < B → ¬ E b → w'.heap[b]? = w.heap[b]?) (he : ∀ b, b < B → E' b → E b) : P (era w' E') B v x := K _ _ _ _ (fun _ _ h => h.era_keep hk he) _ _ h
theorem Keeps.era_below (K : Keeps P) (h : P w B v x) (he : ∀ b, E b → B ≤ b) : P (era w E) B v x := K _ _ _ _ (fun _ _ h => h.era_below he) _ _ h
theorem Keeps.kept (K : Keeps P) (h : P (era w E) w.heap.size v x) (hk : Kept B E w w') (hg : Grew w E E') : P (era w' E') w'.heap.size v x :=
  K _ _ _ _ (fun _ _ h => h.kept hk hg) _ _ h
theorem Keeps.grow (K : Keeps P) (h : P w w.heap.size v x) (hb : Below w.heap.size w w') : P w' w'.heap.size v x := K.lt (K.below h hb)
theorem Keeps.eraGrow (K : Keeps P) (h : P (era w E) w.heap.size v x) (hb : Below w.heap.size w w') : P (era w' E) w'.heap.size v x :=
  K.more (K.era_keep h (fun b hb' _ => hb.block b hb') (fun _ _ h => h)) hb.size
theorem Elts.keep (K : Keeps P) (hR : ∀ (A : Option Addr) (vs : List Value), Row w B A vs → Row w' B' A vs) (h : Elts P w B vs xs) : Elts P w' B' vs xs :=
  ⟨h.1, fun k x hk => by
    obtain ⟨v, h1, h2⟩ := h.2 k x hk
    exact ⟨v, h1, K _ _ _ _ hR _ _ h2⟩⟩
theorem Keeps.slOf (K : Keeps P) : Keeps (SlOf P) := fun w w' B B' hR v xs h => by
  obtain ⟨A, c, vs, h1, h2, h3, h4⟩ := h
  exact ⟨A, c, vs, h1, h2, hR _ _ h3, h4.keep K hR⟩
theorem Elts.nil : Elts P w B [] [] := ⟨rfl, fun k x h => by simp at h⟩
theorem Elts.snoc (h : Elts P w B vs xs) (hx : P w B v x) : Elts P w B (vs ++ [v]) (xs ++ [x]) := by
  refine ⟨by simp [h.1], fun k q hk => ?_⟩
  by_cases hlt : k < xs.length
  · rw [List.getElem?_append_left hlt] at hk
    obtain ⟨u, g1, g2⟩ := h.2 k q hk
    exact ⟨u, by rw [List.getElem?_append_left (by rw [h.1]; exact hlt)]; exact g1, g2⟩
  · have hk2 : k = xs.length := by
      have := (List.getElem?_eq_some_iff.1 hk).1
      simp at this
      omega
    subst hk2
    rw [List.getElem?_append_right (Nat.le_refl _), Nat.sub_self] at hk
    simp at hk
    subst hk
    exact ⟨v, by rw [List.getElem?_append_right (by rw [h.1]; exact Nat.le_refl _), h.1, Nat.sub_self]; rfl, hx⟩
/-- the thing at an index of a slice -/
theorem SlOf.at_ (h : SlOf P w B v xs) {k : Nat} (hk : k < xs.length) :
    ∃ b o c u, v = .slice (some ⟨b, o, none⟩) xs.length c ∧ (xs.length ≤ c ∧ c ≤ maxLen) ∧ b < B ∧ w.cell? ⟨b, o + k, none⟩ = some u ∧ P w B u xs[k] := by
  obtain ⟨A, c, vs, h1, h2, h3, h4⟩ := h
  obtain ⟨u, hu, hp⟩ := h4.2 k xs[k] (List.getElem?_eq_getElem hk)
  obtain ⟨b, o, e, hb, hc⟩ := h3 (fun e => by rw [e] at hu; simp at hu)
  subst e
  exact ⟨b, o, c, u, h1, h2, hb, hc k u hu, hp⟩
theorem SlOf.at2 (h : SlOf P (era w E) B (.slice A n c) xs) (hn : xs.length = n) {k : Nat} (hk : k < n) :
    ∃ b o u x, A = some ⟨b, o, none⟩ ∧ b < B ∧ Hid (xs[k]? = some x) ∧ w.cell? ⟨b, o + k, none⟩ = some u ∧ P (era w E) B u x := by
  subst hn
  obtain ⟨b, o, c', u, h1, h2, h3, h4, h5⟩ := h.at_ hk
  injection h1 with h1
  exact ⟨b, o, u, xs[k], h1, h3, Lib.hid (List.getElem?_eq_getElem hk), (era_some h4).1, h5⟩
/-- what is old stays, and lies apart from a row that is new -/
theorem Keeps.dig (K : Keeps P) (h : P (era w E) B v x) (hb : Below B w w') (hA : ∀ b, OwnE A b → B ≤ b) : P (era w' (OwnX E A)) B v x :=
  K.era_keep h (fun b hb' _ => hb.block b hb') (fun b hb' h => by
    rcases h with h | h
    · exact h
    · have := hA b h
      omega)
theorem SlOf.len (h : SlOf P w B v xs) : ∃ A c, v = .slice A xs.length c ∧ xs.length ≤ c ∧ c ≤ maxLen := by
  obtain ⟨A, c, vs, h1, h2, h3, h4⟩ := h
  exact ⟨A, c, h1, h2⟩
theorem SlOf.nil : SlOf P w B (.slice none 0 0) [] := ⟨none, 0, [], rfl, ⟨Nat.le_refl _, Nat.zero_le _⟩, fun h => absurd rfl h, Elts.nil⟩
theorem OwnOf.nil : OwnOf E P t w B none 0 0 [] := ⟨rfl, [], own_nil _, Elts.nil⟩
theorem own_ltG {xs' : List Value} (h : w.ownsRow B t 1 (.slice A n c) n xs') : ∀ b, OwnE A b → b < w.heap.size ∧ B ≤ b := fun b hb => by
  rcases h.2 with ⟨h2, _⟩ | ⟨g, cap, cur, h2, h3, h4, _⟩
  · injection h2 with h2
    subst h2
    simp [OwnE, Value.ownBlock] at hb
  · injection h2 with h2
    subst h2
    have : g = b := by simpa [OwnE, Value.ownBlock] using hb
    subst this
    exact ⟨(Array.getElem?_eq_some_iff.1 h4).1, h3⟩
theorem OwnOf.lt (h : OwnOf E P t w B A c n xs) : ∀ b, OwnE A b → b < w.heap.size ∧ B ≤ b := by
  obtain ⟨_, ys, h1, _⟩ := h
  exact own_ltG h1
theorem OwnOf.after (K : Keeps P) (h : OwnOf E P t w B A c n xs) (hb : Below w.heap.size w w') : OwnOf E P t w' B A c n xs := by
  obtain ⟨h0, ys, h1, h2⟩ := h
  exact ⟨h0, ys, ow_below h1 hb, h2.keep K (fun _ _ h => (h.era_keep (fun b hb' _ => hb.block b hb') (fun _ _ h => h)).more hb.size)⟩
theorem OwnOf.sl (K : Keeps P) (h : OwnOf E P t w B A c n xs) : SlOf P w w.heap.size (.slice A n c) xs := by
  obtain ⟨h0, ys, h1, h2⟩ := h
  obtain ⟨r1, r2, r3⟩ := ow_row h1
  exact ⟨A, c, ys, by rw [h0], by rw [h0]; exact ⟨r2, r3⟩, r1, h2.keep K (fun _ _ h => h.of_era)⟩
theorem OwnOf.slE (K : Keeps P) (h : OwnOf E P t w B A c n xs) (hE : ∀ b, E b → b < B) : SlOf P (era w E) w.heap.size (.slice A n c) xs := by
  obtain ⟨h0, ys, h1, h2⟩ := h
  obtain ⟨r1, r2, r3⟩ := ow_row h1
  refine ⟨A, c, ys, by rw [h0], by rw [h0]; exact ⟨r2, r3⟩, ow_era h1 (fun g hg hE' => ?_), h2.keep K (fun _ _ h => h.era_keep (fun _ _ _ => rfl) (fun b _ hb => .inl hb))⟩
  have a1 := hE g hE'
  have a2 := (own_ltG h1 g (by unfold OwnE; rw [← own_size (n := n) A c]; exact hg)).2
  omega
/-- another row has changed, or this one's content stays for another reason -/
theorem OwnOf.other (K : Keeps P) (h : OwnOf E P t w B A c n xs) (hA : ∀ b, OwnE A b → w'.heap[b]? = w.heap[b]?) (hk : ∀ b, b < w.heap.size → ¬ OwnX E A b → w'.heap[b]? = w.heap[b]?) (hs : w.heap.size ≤ w'.heap.size)
    (he : ∀ b, E' b → E b ∨ w.heap.size ≤ b) : OwnOf E' P t w' B A c n xs := by
  obtain ⟨h0, ys, h1, h2⟩ := h
  refine ⟨h0, ys, ?_, ?_⟩
  · refine ⟨h1.1, ?_⟩
    rcases h1.2 with h' | ⟨g, cap, cur, hv, hb, hh, h'⟩
    · exact .inl h'
    · refine .inr ⟨g, cap, cur, hv, hb, (hA g ?_).trans hh, h'⟩
      injection hv with hv
      subst hv
      simp [OwnE, Value.ownBlock]
  · exact h2.keep K (fun _ _ h => (h.era_keep hk (fun b hb hb' => by
      rcases hb' with hb' | hb'
      · rcases he b hb' with h3 | h3
        · exact .inl h3
        · omega
      · exact .inr hb')).more hs)
end
/-- a slice of patterns -/
def PsV (w : World) (B : Nat) (v : Value) (ps : List Pat) : Prop := ∃ A c, v = .slice A ps.length c ∧ PsAt w B A c ps
theorem PsV.keeps : Keeps PsV := fun w w' B B' hR v ps h => by
  obtain ⟨A, c, h1, h2, us, h3, h4⟩ := h
  exact ⟨A, c, h1, h2, us, hR _ _ h3, PatsAt.keep hR ps us h4⟩
/-- a set of rests; a state; states -/
def SetV := SlOf PsV
def StV := SlOf SetV
theorem SetV.keeps : Keeps SetV := PsV.keeps.slOf
theorem StV.keeps : Keeps StV := SetV.keeps.slOf
theorem RsAt.elts {w : World} {B : Nat} {vs : List Value} {S : List (List Pat)} (h : RsAt w B vs S) : Elts PsV w B vs S := ⟨h.1, fun k r hk => by
  obtain ⟨A, c, h1, h2⟩ := h.2 k r hk
  exact ⟨_, h1, A, c, rfl, h2⟩⟩
theorem RsAt.of_elts {w : World} {B : Nat} {vs : List Value} {S : List (List Pat)} (h : Elts PsV w B vs S) : RsAt w B vs S := ⟨h.1, fun k r hk => by
  obtain ⟨v, h1, A, c, rfl, h2⟩ := h.2 k r hk
  exact ⟨A, c, h1, h2⟩⟩
theorem SetAt.own {E : Nat → Prop} {w : World} {B : Nat} {A : Option Addr} {c n : Nat} {S : List (List Pat)} (h : SetAt E w B A c S) (hn : S.length = n) : OwnOf E PsV 75 w B A c n S := by
  obtain ⟨_, vs, h1, h2⟩ := h
  subst hn
  exact ⟨rfl, vs, h1, h2.elts⟩
theorem SetAt.sl {E : Nat → Prop} {w : World} {B : Nat} {A : Option Addr} {c n : Nat} {S : List (List Pat)} (h : SetAt E w B A c S) (hn : S.length = n) : SetV (era w E) w.heap.size (.slice A n c) S := by
  subst hn
  have hg := Go.Proofs.Ytkoojoogddndnaa.own_ge h
  obtain ⟨⟨h0, h0'⟩, vs, h1, h2⟩ := h
  obtain ⟨r1, r2, r3⟩ := ow_row h1
  refine ⟨A, c, vs, rfl, ⟨r2, r3⟩, ow_era h1 (fun g hg' hE => ?_), h2.elts.keep PsV.keeps (fun _ _ h => h.era_keep (fun _ _ _ => rfl) (fun b _ hb => .inl hb))⟩
  have a1 := h0 g hE
  have a2 := (hg g (by unfold OwnE; rw [← own_size (n := S.length) A c]; exact hg')).2
  omega
theorem OwnOf.setAt {E : Nat → Prop} {w : World} {B : Nat} {A : Option Addr} {c n : Nat} {S : List (List Pat)} (h : OwnOf E PsV 75 w B A c n S) (h0 : (∀ b, E b → b < B) ∧ B ≤ w.heap.size) : SetAt E w B A c S := by
  obtain ⟨rfl, vs, h1, h2⟩ := h
  exact ⟨h0, vs, h1, RsAt.of_elts h2⟩
end Go.UtYtkoojoogddndnaa
namespace Go.UtYtkoojoogddndnaa
open Go.RowKit
structure Rw (α : Type) where
  P : World → Nat → Value → α → Prop
  t : TypeId
  B : Nat
  A : Option Addr
  c : Nat
  n : Nat
  xs : List α
def U4 (E0 : Nat → Prop) (A B C D : Option Addr) : Nat → Prop := fun b => E0 b ∨ OwnE A b ∨ OwnE B b ∨ OwnE C b ∨ OwnE D b
def Apart (A B : Option Addr) : Prop := ∀ b, OwnE A b → ¬ OwnE B b
def Rw.ok {α : Type} (r : Rw α) (E0 U : Nat → Prop) (w : World) : Prop := Keeps r.P ∧ OwnOf U r.P r.t w r.B r.A r.c r.n r.xs ∧ ∀ b, E0 b → ¬ OwnE r.A b
structure Four {α β γ δ : Type} (E0 : Nat → Prop) (w : World) (r1 : Rw α) (r2 : Rw β) (r3 : Rw γ) (r4 : Rw δ) : Prop where
  o1 : r1.ok E0 (U4 E0 r1.A r2.A r3.A r4.A) w
  o2 : r2.ok E0 (U4 E0 r1.A r2.A r3.A r4.A) w
  o3 : r3.ok E0 (U4 E0 r1.A r2.A r3.A r4.A) w
  o4 : r4.ok E0 (U4 E0 r1.A r2.A r3.A r4.A) w
  a12 : Apart r1.A r2.A
  a13 : Apart r1.A r3.A
  a14 : Apart r1.A r4.A
  a23 : Apart r2.A r3.A
  a24 : Apart r2.A r4.A
  a34 : Apart r3.A r4.A
  e0 : ∀ b, E0 b → b < w.heap.size
section
variable {α β γ δ : Type} {E0 U U' : Nat → Prop} {w w' : World} {r1 : Rw α} {r2 : Rw β} {r3 : Rw γ} {r4 : Rw δ}
theorem own_none {b : Nat} : ¬ OwnE none b := fun h => by simp [OwnE, Value.ownBlock] at h
theorem Apart.symm {A B : Option Addr} (h : Apart A B) : Apart B A := fun b h1 h2 => h b h2 h1
theorem Apart.none_r {A : Option Addr} : Apart A none := fun _ _ h => own_none h
theorem OwnOf.re {P : World → Nat → Value → α → Prop} {t : TypeId} {B c n : Nat} {A : Option Addr} {xs : List α} (K : Keeps P) (h : OwnOf U P t w B A c n xs) (hU : ∀ b, U' b → OwnX U A b) : OwnOf U' P t w B A c n xs := by
  obtain ⟨h0, ys, h1, h2⟩ := h
  exact ⟨h0, ys, h1, h2.keep K (fun _ _ h => h.era_keep (fun _ _ _ => rfl) (fun b _ hb => by
    rcases hb with hb | hb
    · exact hU b hb
    · exact .inr hb))⟩
theorem Rw.ok.re {r : Rw α} (h : r.ok E0 U w) (hU : ∀ b, U' b → OwnX U r.A b) : r.ok E0 U' w := ⟨h.1, h.2.1.re h.1 hU, h.2.2⟩
theorem Rw.ok.lt {r : Rw α} (h : r.ok E0 U w) : ∀ b, OwnE r.A b → b < w.heap.size ∧ r.B ≤ b := h.2.1.lt
/-- another row has grown -/
theorem Rw.ok.aside {r : Rw α} {B : Nat} {A A' : Option Addr} (h : r.ok E0 U w) (hd : Apart A r.A) (hUA : ∀ b, OwnE A b → U b) (hk : Kept B (OwnE A) w w') (hU : ∀ b, U' b → U b ∨ w.heap.size ≤ b) (hg : Grew w (OwnE A) (OwnE A')) : r.ok E0 U' w' ∧ Apart A' r.A :=
  ⟨⟨h.1, h.2.1.other h.1 (fun b hb => hk.2 b (h.lt b hb).1 (fun hb' => hd b hb' hb)) (fun b hb hn => hk.2 b hb (fun hb' => hn (.inl (hUA b hb')))) hk.1.size hU, h.2.2⟩, fun b hb hb' => by
    rcases hg b hb with h1 | h1
    · exact hd b h1 hb'
    · have := (h.lt b hb').1
      omega⟩
theorem Four.rot (F : Four E0 w r1 r2 r3 r4) : Four E0 w r2 r3 r4 r1 := by
  have hU : ∀ b, U4 E0 r2.A r3.A r4.A r1.A b → U4 E0 r1.A r2.A r3.A r4.A b := fun b h => by
    unfold U4 at h ⊢
    rcases h with h | h | h | h | h <;> simp [h]
  exact ⟨F.o2.re (fun b h => .inl (hU b h)), F.o3.re (fun b h => .inl (hU b h)), F.o4.re (fun b h => .inl (hU b h)), F.o1.re (fun b h => .inl (hU b h)), F.a23, F.a24, F.a12.symm, F.a34, F.a13.symm, F.a14.symm, F.e0⟩
theorem Four.lt (F : Four E0 w r1 r2 r3 r4) : ∀ b, U4 E0 r1.A r2.A r3.A r4.A b → b < w.heap.size := fun b h => by
  rcases h with h | h | h | h | h
  · exact F.e0 b h
  · exact (F.o1.lt b h).1
  · exact (F.o2.lt b h).1
  · exact (F.o3.lt b h).1
  · exact (F.o4.lt b h).1
theorem Four.ge {N : Nat} (F : Four E0 w r1 r2 r3 r4) (h0 : ∀ b, E0 b → N ≤ b) (h1 : N ≤ r1.B) (h2 : N ≤ r2.B) (h3 : N ≤ r3.B) (h4 : N ≤ r4.B) : ∀ b, U4 E0 r1.A r2.A r3.A r4.A b → N ≤ b := fun b h => by
  rcases h with h | h | h | h | h
  · exact h0 b h
  · exact Nat.le_trans h1 (F.o1.lt b h).2
  · exact Nat.le_trans h2 (F.o2.lt b h).2
  · exact Nat.le_trans h3 (F.o3.lt b h).2
  · exact Nat.le_trans h4 (F.o4.lt b h).2
/-- the first row has grown -/
theorem Four.push1 {A' : Option Addr} {c' n' : Nat} {xs' : List α} {B : Nat} (F : Four E0 w r1 r2 r3 r4) (hO : OwnOf (U4 E0 r1.A r2.A r3.A r4.A) r1.P r1.t w' r1.B A' c' n' xs') (hk : Kept B (OwnE r1.A) w w') (hg : Grew w (OwnE r1.A) (OwnE A')) :
    Four E0 w' { r1 with A := A', c := c', n := n', xs := xs' } r2 r3 r4 := by
  have hU : ∀ b, U4 E0 A' r2.A r3.A r4.A b → U4 E0 r1.A r2.A r3.A r4.A b ∨ w.heap.size ≤ b := fun b h => by
    unfold U4 at h ⊢
    rcases h with h | h | h
    · simp [h]
    · rcases hg b h with h | h <;> simp [h]
    · rcases h with h | h | h <;> simp [h]
  have hUA : ∀ b, OwnE r1.A b → U4 E0 r1.A r2.A r3.A r4.A b := fun b h => by
    unfold U4
    simp [h]
  obtain ⟨p2, q2⟩ := F.o2.aside F.a12 hUA hk hU hg
  obtain ⟨p3, q3⟩ := F.o3.aside F.a13 hUA hk hU hg
  obtain ⟨p4, q4⟩ := F.o4.aside F.a14 hUA hk hU hg
  refine ⟨⟨F.o1.1, hO.re F.o1.1 (fun b h => ?_), fun b hb hb' => ?_⟩, p2, p3, p4, q2, q3, q4, F.a23, F.a24, F.a34, fun b hb => Nat.lt_of_lt_of_le (F.e0 b hb) hk.1.size⟩
  · change U4 E0 A' r2.A r3.A r4.A b at h
    unfold OwnX U4
    unfold U4 at h
    rcases h with h | h | h
    · simp [h]
    · simp [h]
    · rcases h with h | h | h <;> simp [h]
  · rcases hg b hb' with h1 | h1
    · exact F.o1.2.2 b hb h1
    · have := F.e0 b hb
      omega
theorem Rw.ok.after {r : Rw α} (h : r.ok E0 U w) (hb : Below w.heap.size w w') : r.ok E0 U w' := ⟨h.1, h.2.1.after h.1 hb, h.2.2⟩
theorem Four.after (F : Four E0 w r1 r2 r3 r4) (hb : Below w.heap.size w w') : Four E0 w' r1 r2 r3 r4 :=
  ⟨F.o1.after hb, F.o2.after hb, F.o3.after hb, F.o4.after hb, F.a12, F.a13, F.a14, F.a23, F.a24, F.a34, fun b h => Nat.lt_of_lt_of_le (F.e0 b h) hb.size⟩
theorem Rw.ok.store {r : Rw α} (h : r.ok E0 U w) (hE : ∀ b, E0 b → U b) (hk : ∀ b, ¬ E0 b → w'.heap[b]? = w.heap[b]?) (hs : w'.heap.size = w.heap.size) : r.ok E0 U w' :=
  ⟨h.1, h.2.1.other h.1 (fun b hb => hk b (fun h0 => h.2.2 b h0 hb)) (fun b _ hn => hk b (fun h0 => hn (.inl (hE b h0)))) (by omega) (fun b hb => .inl hb), h.2.2⟩
/-- a block of E0 has changed -/
theorem Four.store (F : Four E0 w r1 r2 r3 r4) (hk : ∀ b, ¬ E0 b → w'.heap[b]? = w.heap[b]?) (hs : w'.heap.size = w.heap.size) : Four E0 w' r1 r2 r3 r4 :=
  ⟨F.o1.store (fun _ h => .inl h) hk hs, F.o2.store (fun _ h => .inl h) hk hs, F.o3.store (fun _ h => .inl h) hk hs, F.o4.store (fun _ h => .inl h) hk hs, F.a12, F.a13, F.a14, F.a23, F.a24, F.a34, fun b h => by rw [hs]; exact F.e0 b h⟩
/-- the last row is let go: a slice that lies apart from the others -/
theorem Four.drop4 (F : Four E0 w r1 r2 r3 r4) (B : Nat) : Four E0 w r1 r2 r3 { r4 with B := B, A := none, c := 0, n := 0, xs := [] } ∧ SlOf r4.P (era w (U4 E0 r1.A r2.A r3.A none)) w.heap.size (.slice r4.A r4.n r4.c) r4.xs := by
  have hU : ∀ b, U4 E0 r1.A r2.A r3.A none b → U4 E0 r1.A r2.A r3.A r4.A b := fun b h => by
    unfold U4 at h ⊢
    rcases h with h | h | h | h | h
    · simp [h]
    · simp [h]
    · simp [h]
    · simp [h]
    · exact absurd h own_none
  refine ⟨⟨F.o1.re (fun b h => .inl (hU b h)), F.o2.re (fun b h => .inl (hU b h)), F.o3.re (fun b h => .inl (hU b h)), ⟨F.o4.1, OwnOf.nil, fun b _ h => own_none h⟩, F.a12, F.a13, Apart.none_r, F.a23, Apart.none_r, Apart.none_r, F.e0⟩, ?_⟩
  obtain ⟨h0, ys, h1, h2⟩ := F.o4.2.1
  obtain ⟨r1', r2', r3'⟩ := ow_row h1
  refine ⟨r4.A, r4.c, ys, by rw [h0], by rw [h0]; exact ⟨r2', r3'⟩, ow_era h1 (fun g hg hE => ?_), h2.keep F.o4.1 (fun _ _ h => h.era_keep (fun _ _ _ => rfl) (fun b _ hb => .inl (hU b hb)))⟩
  have hg' : OwnE r4.A g := by unfold OwnE; rw [← own_size (n := r4.n) r4.A r4.c]; exact hg
  rcases hE with h | h | h | h | h
  · exact F.o4.2.2 g h hg'
  · exact F.a14 g h hg'
  · exact F.a24 g h hg'
  · exact F.a34 g h hg'
  · exact own_none h
end
/-- an int in a cell; a slice of ints -/
def IntV (_ : World) (_ : Nat) (v : Value) (x : Int) : Prop := v = .int .i64 x
def IntsV := SlOf IntV
theorem IntV.keeps : Keeps IntV := fun _ _ _ _ _ _ _ h => h
theorem IntsV.keeps : Keeps IntsV := IntV.keeps.slOf
theorem IntV.elts {w : World} {B : Nat} {vs : List Value} {xs : List Int} (h : Elts IntV w B vs xs) : vs = ints xs := by
  apply List.ext_getElem?
  intro k
  unfold ints
  rw [List.getElem?_map]
  by_cases hk : k < xs.length
  · obtain ⟨v, h1, h2⟩ := h.2 k xs[k] (List.getElem?_eq_getElem hk)
    rw [h1, List.getElem?_eq_getElem hk, h2]
    rfl
  · rw [List.getElem?_eq_none (by rw [h.1]; omega), List.getElem?_eq_none (by omega)]
    rfl
theorem IntV.of_ints {w : World} {B : Nat} (xs : List Int) : Elts IntV w B (ints xs) xs := ⟨ints_len xs, fun k x hk => ⟨.int .i64 x, by unfold ints; rw [List.getElem?_map, hk]; rfl, rfl⟩⟩
theorem IntsV.row {w : World} {B c n : Nat} {A : Option Addr} {xs : List Int} (h : IntsV w B (.slice A n c) xs) : xs.length = n ∧ n ≤ c ∧ c ≤ maxLen ∧ Row w B A (ints xs) := by
  obtain ⟨A', c', vs, h1, h2, h3, h4⟩ := h
  injection h1 with e1 e2 e3
  subst e1 e2 e3
  rw [IntV.elts h4] at h3
  exact ⟨rfl, h2.1, h2.2, h3⟩
theorem IntsV.of {w : World} {B c n : Nat} {A : Option Addr} {xs : List Int} (hn : xs.length = n) (h1 : n ≤ c) (h2 : c ≤ maxLen) (h3 : Row w B A (ints xs)) : IntsV w B (.slice A n c) xs := by
  subst hn
  exact ⟨A, c, _, rfl, ⟨h1, h2⟩, h3, IntV.of_ints xs⟩
theorem Rows2.of_sl {w : World} {B c n : Nat} {A : Option Addr} {xss : List (List Int)} (h : SlOf IntsV w B (.slice A n c) xss) : xss.length = n ∧ n ≤ c ∧ c ≤ maxLen ∧ Rows2 w B A xss := by
  obtain ⟨A', c', vs, h1, h2, h3, h4⟩ := h
  injection h1 with e1 e2 e3
  subst e1 e2 e3
  refine ⟨rfl, h2.1, h2.2, vs, h4.1, h3, fun k xs hk => ?_⟩
  obtain ⟨v, g1, A', c', ws, g2, g3, g4, g5⟩ := h4.2 k xs hk
  rw [IntV.elts g5] at g4
  subst g2
  exact ⟨A', c', g1, g3.1, g3.2, g4⟩
theorem OwnOf.ints {U : Nat → Prop} {w : World} {B c n : Nat} {A : Option Addr} {xs : List Int} {t : TypeId} (h : OwnOf U IntV t w B A c n xs) : w.ownsRow B t 1 (.slice A n c) n (Go.UtYtkoojoogddndnaa.ints xs) := by
  obtain ⟨_, ys, h1, h2⟩ := h
  rw [IntV.elts h2] at h1
  exact h1
/-- a literal of one thing -/
theorem lit_one {α : Type} {P : World → Nat → Value → α → Prop} (K : Keeps P) {E : Nat → Prop} {w u : World} {v : Value} {x : α} {T : TypeId} (hE : ∀ b, E b → b < w.heap.size) (hv : P (era w E) w.heap.size v x) (hu : u = w.alloc (.cells #[v] T)) :
    SlOf P (era u E) u.heap.size (.slice (some ⟨w.heap.size, 0, none⟩) 1 1) [x] := by
  have hb : Below w.heap.size w u := by rw [hu]; exact (Below.refl _ _).alloc (Nat.le_refl _) _
  refine ⟨_, _, [v], rfl, ⟨Nat.le_refl _, by simp [maxLen]⟩, ?_, Elts.nil.snoc (K.eraGrow hv hb)⟩
  have h1 : Row u (w.heap.size + 1) (some ⟨w.heap.size, 0, none⟩) [v] := by
    rw [hu]
    exact row_lit w T _
  refine (h1.era_new (N := w.heap.size) (fun a ha => by injection ha with ha; subst ha; exact Nat.le_refl _) hE).more ?_
  rw [hu]
  simp
/-- the thing at an index of a row of the call's own -/
theorem OwnOf.at_ {α : Type} {P : World → Nat → Value → α → Prop} {U : Nat → Prop} {t : TypeId} {w : World} {B c n : Nat} {A : Option Addr} {xs : List α} (K : Keeps P) (h : OwnOf U P t w B A c n xs) {k : Nat} (hk : k < n) :
    ∃ b o u x, A = some ⟨b, o, none⟩ ∧ b < w.heap.size ∧ Hid (xs[k]? = some x) ∧ w.cell? ⟨b, o + k, none⟩ = some u ∧ P (era w U) w.heap.size u x := by
  obtain ⟨h0, vs, h1, h2⟩ := h
  obtain ⟨hr, _, _⟩ := ow_row h1
  obtain ⟨u, hu, hp⟩ := h2.2 k xs[k] (List.getElem?_eq_getElem (by omega))
  obtain ⟨b, o, e, hb, hc⟩ := hr (fun e => by rw [e] at hu; simp at hu)
  exact ⟨b, o, u, xs[k], e, hb, Lib.hid (List.getElem?_eq_getElem (by omega)), hc k u hu, K.era_keep hp (fun _ _ _ => rfl) (fun b _ hb => .inl hb)⟩
theorem own_lit1 (w : World) (t : TypeId) (a : Value) {B : Nat} (hB : B ≤ w.heap.size) : (w.alloc (.cells #[a] t)).ownsRow B t 1 (.slice (some ⟨w.heap.size, 0, none⟩) 1 1) 1 [a] :=
  ⟨by simp, .inr ⟨w.heap.size, 1, #[a], rfl, hB, heap_alloc_new w _, Nat.le_refl _, by simp [maxLen], by simp, by simp⟩⟩
/-- at the start: a literal of one thing, three empty rows, and a cell block -/
theorem four_lit {α β γ δ : Type} {P1 : World → Nat → Value → α → Prop} {P2 : World → Nat → Value → β → Prop} {P3 : World → Nat → Value → γ → Prop} {P4 : World → Nat → Value → δ → Prop} (K1 : Keeps P1) (K2 : Keeps P2) (K3 : Keeps P3) (K4 : Keeps P4)
    {t1 t2 t3 t4 T : TypeId} {w2 w3 w4 : World} {B : Nat} {E : Nat → Prop} {v : Value} {x : α} {zs : Array Value} (hB : B ≤ w2.heap.size) (hE : ∀ b, E b → b < w2.heap.size) (hv : P1 (era w2 E) w2.heap.size v x) (h3 : w3 = w2.alloc (.cells #[v] t1)) (h4 : w4 = w3.alloc (.cells zs T)) :
    Four (fun b => E b ∨ b = w2.heap.size + 1) w4 ⟨P1, t1, B, some ⟨w2.heap.size, 0, none⟩, 1, 1, [x]⟩ ⟨P2, t2, B, none, 0, 0, []⟩ ⟨P3, t3, B, none, 0, 0, []⟩ ⟨P4, t4, B, none, 0, 0, []⟩ := by
  have hs3 : w3.heap.size = w2.heap.size + 1 := by rw [h3]; simp
  have hs4 : w4.heap.size = w2.heap.size + 2 := by rw [h4]; simp [hs3]
  have hb3 : Below w2.heap.size w2 w3 := by rw [h3]; exact (Below.refl _ _).alloc (Nat.le_refl _) _
  have hb4 : Below w3.heap.size w3 w4 := by rw [h4]; exact (Below.refl _ _).alloc (Nat.le_refl _) _
  have hbb : Below w2.heap.size w2 w4 := hb3.trans (hb4.mono (by omega))
  have ho : ∀ b, OwnE (some ⟨w2.heap.size, 0, none⟩) b → b = w2.heap.size := fun b hb => by simp [OwnE, Value.ownBlock] at hb; exact hb.symm
  refine ⟨⟨K1, ⟨rfl, [v], ?_, Elts.nil.snoc ?_⟩, fun b hb hb' => ?_⟩, ⟨K2, OwnOf.nil, fun b _ => own_none⟩, ⟨K3, OwnOf.nil, fun b _ => own_none⟩, ⟨K4, OwnOf.nil, fun b _ => own_none⟩, Apart.none_r, Apart.none_r, Apart.none_r, Apart.none_r, Apart.none_r, Apart.none_r, fun b hb => ?_⟩
  · have := own_lit1 w2 t1 v hB
    rw [← h3] at this
    exact ow_below this hb4
  · refine K1.more (K1.era_keep hv (fun b hb _ => hbb.block b hb) (fun b hb hb' => ?_)) hbb.size
    rcases hb' with (((h | h) | h | h | h | h) | h)
    · exact h
    · omega
    · have := ho b h; omega
    · exact absurd h own_none
    · exact absurd h own_none
    · exact absurd h own_none
    · have := ho b h; omega
  · have h1 := ho b hb'
    rcases hb with hb | hb
    · have := hE b hb
      omega
    · omega
  · rcases hb with hb | hb
    · have := hE b hb
      omega
    · omega
theorem four_aut {α δ : Type} {E0 : Nat → Prop} {w : World} {r1 : Rw α} {r4 : Rw δ} {t2 t3 : TypeId} {B2 B3 c2 c3 n2 n3 : Nat} {A2 A3 : Option Addr} {nx mk : List (List Int)} (F : Four E0 w r1 ⟨IntsV, t2, B2, A2, c2, n2, nx⟩ ⟨IntsV, t3, B3, A3, c3, n3, mk⟩ r4) :
    AutAt w w.heap.size A2 c2 A3 c3 nx mk ∧ nx.length = n2 ∧ mk.length = n3 := by
  obtain ⟨a1, a2, a3, a4⟩ := Rows2.of_sl (F.o2.2.1.sl IntsV.keeps)
  obtain ⟨b1, b2, b3, b4⟩ := Rows2.of_sl (F.o3.2.1.sl IntsV.keeps)
  exact ⟨⟨⟨a4, by rw [a1]; exact a2, a3⟩, b4, by rw [b1]; exact b2, b3⟩, a1, b1⟩
theorem four_autE {α δ : Type} {E0 E : Nat → Prop} {w : World} {r1 : Rw α} {r4 : Rw δ} {t2 t3 : TypeId} {B c2 c3 n2 n3 : Nat} {A2 A3 : Option Addr} {nx mk : List (List Int)} (F : Four E0 w r1 ⟨IntsV, t2, B, A2, c2, n2, nx⟩ ⟨IntsV, t3, B, A3, c3, n3, mk⟩ r4) (hE : ∀ b, E b → E0 b) (hB : ∀ b, E b → b < B) :
    AutAt (era w E) w.heap.size A2 c2 A3 c3 nx mk ∧ nx.length = n2 ∧ mk.length = n3 := by
  obtain ⟨a1, a2, a3, a4⟩ := Rows2.of_sl ((F.o2.2.1.re (U' := E) IntsV.keeps (fun b h => .inl (.inl (hE b h)))).slE IntsV.keeps hB)
  obtain ⟨b1, b2, b3, b4⟩ := Rows2.of_sl ((F.o3.2.1.re (U' := E) IntsV.keeps (fun b h => .inl (.inl (hE b h)))).slE IntsV.keeps hB)
  exact ⟨⟨⟨a4, by rw [a1]; exact a2, a3⟩, b4, by rw [b1]; exact b2, b3⟩, a1, b1⟩
theorem set2_keep {w : World} {g : Nat} {a b : Value} : (∀ k, k ≠ g → ((w.setCell ⟨g, 0, none⟩ a).setCell ⟨g, 1, none⟩ b).heap[k]? = w.heap[k]?) ∧ ((w.setCell ⟨g, 0, none⟩ a).setCell ⟨g, 1, none⟩ b).heap.size = w.heap.size :=
  ⟨fun k hk => (Below.heap_setCell _ _ _ k hk).trans (Below.heap_setCell _ _ _ k hk), by simp [World.setCell]⟩
theorem set1_keep {w : World} {g o : Nat} {a : Value} : (∀ k, k ≠ g → (w.setCell ⟨g, o, none⟩ a).heap[k]? = w.heap[k]?) ∧ (w.setCell ⟨g, o, none⟩ a).heap.size = w.heap.size :=
  ⟨fun k hk => Below.heap_setCell _ _ _ k hk, by simp [World.setCell]⟩
theorem IntsV.of_own {w : World} {E : Nat → Prop} {B c n : Nat} {A : Option Addr} {xs : List Int} {t : TypeId} (h : w.ownsRow B t 1 (.slice A n c) n (ints xs)) (hE : ∀ b, E b → b < B) : IntsV (era w E) w.heap.size (.slice A n c) xs := by
  obtain ⟨r1, r2, r3⟩ := ow_row h
  refine IntsV.of (by have := h.1; rw [ints_len] at this; omega) r2 r3 (ow_era h (fun g hg hE' => ?_))
  have a1 := hE g hE'
  have a2 := (own_ltG h g (by unfold OwnE; rw [← own_size (n := n) A c]; exact hg)).2
  omega
theorem Four.x1 {α β γ δ : Type} {E0 : Nat → Prop} {w : World} {r1 : Rw α} {r2 : Rw β} {r3 : Rw γ} {r4 : Rw δ} (_F : Four E0 w r1 r2 r3 r4) : ∀ b, OwnX (U4 E0 r1.A r2.A r3.A r4.A) r1.A b → U4 E0 r1.A r2.A r3.A r4.A b := fun b h => by
  rcases h with h | h
  · exact h
  · exact .inr (.inl h)
/-- what is said with more erased blocks is said with fewer -/
theorem Keeps.less {α : Type} {P : World → Nat → Value → α → Prop} (K : Keeps P) {w : World} {E E' : Nat → Prop} {B : Nat} {v : Value} {x : α} (h : P (era w E) B v x) (he : ∀ b, E' b → E b) : P (era w E') B v x :=
  K.era_keep h (fun _ _ _ => rfl) (fun b _ hb => he b hb)
theorem era_false (w : World) : era w (fun _ => False) = w := by
  unfold era
  congr 1
  apply Array.ext
  · simp
  · intro i h1 h2
    simp
end Go.UtYtkoojoogddndnaa
