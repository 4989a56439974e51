/-
  Patterns: trees, in memory; opened as arguments. Rules.
  Patterns and rules as arguments.
  ref28.Parts, deep, Small.
-/
import Derived.Test.YtkoojoogddndnaaBo0
import Derived.ChangeArms
import Derived.Test.YtkoojoogddndnaaBw1
namespace Go.UtYtkoojoogddndnaa
open Go.RowKit
inductive Pat where
  | mk (kind : Int) (cls : List Int) (subs : List Pat) : Pat
def Pat.kind : Pat → Int | .mk k _ _ => k
def Pat.cls : Pat → List Int | .mk _ c _ => c
def Pat.subs : Pat → List Pat | .mk _ _ s => s
mutual
/-- the three cells of a pattern; B: a bound of the blocks that hold it -/
def PatAt (w : World) (B : Nat) : Pat → List Value → Prop
  | .mk k c s, vs => ∃ (A : Option Addr) (ca : Nat) (A' : Option Addr) (cs : Nat) (us : List Value), vs = [.int .i64 k, .slice A c.length ca, .slice A' s.length cs] ∧ (c.length ≤ ca ∧ ca ≤ maxLen) ∧ (s.length ≤ cs ∧ cs ≤ maxLen) ∧ Row w B A (ints c) ∧ Row w B A' us ∧ PatsAt w B s us
/-- patterns, one after the other -/
def PatsAt (w : World) (B : Nat) : List Pat → List Value → Prop
  | [], vs => vs = []
  | p :: ps, vs => ∃ us rs, vs = us ++ rs ∧ us.length = 3 ∧ PatAt w B p us ∧ PatsAt w B ps rs
end
/-- a slice of patterns -/
def PsAt (w : World) (B : Nat) (A : Option Addr) (c : Nat) (ps : List Pat) : Prop := (ps.length ≤ c ∧ c ≤ maxLen) ∧ ∃ us, Row w B A us ∧ PatsAt w B ps us
section
variable {w w' : World} {B B' : Nat}
mutual
theorem PatAt.keep (hR : ∀ (A : Option Addr) (vs : List Value), Row w B A vs → Row w' B' A vs) : ∀ (p : Pat) (vs : List Value), PatAt w B p vs → PatAt w' B' p vs
  | .mk k c s, vs, h => by
    rw [PatAt] at h ⊢
    obtain ⟨A, ca, A', cs, us, h1, h2, h3, h4, h5, h6⟩ := h
    exact ⟨A, ca, A', cs, us, h1, h2, h3, hR _ _ h4, hR _ _ h5, PatsAt.keep hR s us h6⟩
theorem PatsAt.keep (hR : ∀ (A : Option Addr) (vs : List Value), Row w B A vs → Row w' B' A vs) : ∀ (ps : List Pat) (vs : List Value), PatsAt w B ps vs → PatsAt w' B' ps vs
  | [], vs, h => by
    rw [PatsAt] at h ⊢
    exact h
  | p :: ps, vs, h => by
    rw [PatsAt] at h ⊢
    obtain ⟨us, rs, h1, h2, h3, h4⟩ := h
    exact ⟨us, rs, h1, h2, PatAt.keep hR p us h3, PatsAt.keep hR ps rs h4⟩
end
theorem PatAt.below {p : Pat} {vs : List Value} (h : PatAt w B p vs) (hb : Below B w w') : PatAt w' B p vs := PatAt.keep (fun _ _ h => h.below hb) p vs h
theorem PatsAt.below {p : List Pat} {vs : List Value} (h : PatsAt w B p vs) (hb : Below B w w') : PatsAt w' B p vs := PatsAt.keep (fun _ _ h => h.below hb) p vs h
theorem PatAt.lt {p : Pat} {vs : List Value} (h : PatAt w B p vs) : PatAt w w.heap.size p vs := PatAt.keep (fun _ _ h => h.lt) p vs h
theorem PatsAt.lt {p : List Pat} {vs : List Value} (h : PatsAt w B p vs) : PatsAt w w.heap.size p vs := PatsAt.keep (fun _ _ h => h.lt) p vs h
theorem PsAt.below {A : Option Addr} {c : Nat} {ps : List Pat} (h : PsAt w B A c ps) (hb : Below B w w') : PsAt w' B A c ps := by
  obtain ⟨h1, us, h2, h3⟩ := h
  exact ⟨h1, us, h2.below hb, h3.below hb⟩
theorem PsAt.lt {A : Option Addr} {c : Nat} {ps : List Pat} (h : PsAt w B A c ps) : PsAt w w.heap.size A c ps := by
  obtain ⟨h1, us, h2, h3⟩ := h
  exact ⟨h1, us, h2.lt, h3.lt⟩
theorem PatsAt.len : ∀ {ps : List Pat} {vs : List Value}, PatsAt w B ps vs → vs.length = ps.length * 3
  | [], vs, h => by
    rw [PatsAt] at h
    subst h
    rfl
  | p :: ps, vs, h => by
    rw [PatsAt] at h
    obtain ⟨us, rs, rfl, h2, h3, h4⟩ := h
    have := PatsAt.len h4
    simp
    omega
theorem PatsAt.get : ∀ {ps : List Pat} {vs : List Value}, PatsAt w B ps vs → ∀ {k : Nat} {p : Pat}, ps[k]? = some p → ∃ u0 u1 u2, vs[k * 3]? = some u0 ∧ vs[k * 3 + 1]? = some u1 ∧ vs[k * 3 + 2]? = some u2 ∧ PatAt w B p [u0, u1, u2]
  | [], vs, h, k, p, hk => by simp at hk
  | q :: ps, vs, h, k, p, hk => by
    rw [PatsAt] at h
    obtain ⟨us, rs, rfl, h2, h3, h4⟩ := h
    match us, h2 with
    | [a, b, c], _ =>
      cases k with
      | zero =>
        simp at hk
        subst hk
        exact ⟨a, b, c, rfl, rfl, rfl, h3⟩
      | succ k =>
        obtain ⟨u0, u1, u2, g0, g1, g2, g3⟩ := PatsAt.get h4 (k := k) (by simpa using hk)
        exact ⟨u0, u1, u2, by rw [show (k + 1) * 3 = k * 3 + 3 by omega]; simpa using g0, by rw [show (k + 1) * 3 + 1 = k * 3 + 1 + 3 by omega]; simpa using g1, by rw [show (k + 1) * 3 + 2 = k * 3 + 2 + 3 by omega]; simpa using g2, g3⟩
/-- the pattern at an index of a slice: its cells -/
theorem PsAt.at_ {A : Option Addr} {c : Nat} {ps : List Pat} (h : PsAt w B A c ps) {k : Nat} (hk : k < ps.length) :
    ∃ b o p A1 c1 A2 c2, A = some ⟨b, o, none⟩ ∧ b < B ∧ Hid (ps[k]? = some p) ∧ w.cell? ⟨b, o + k * 3, none⟩ = some (.int .i64 p.kind) ∧ w.cell? ⟨b, o + k * 3 + 1, none⟩ = some (.slice A1 p.cls.length c1) ∧ w.cell? ⟨b, o + k * 3 + 2, none⟩ = some (.slice A2 p.subs.length c2) ∧
      (p.cls.length ≤ c1 ∧ c1 ≤ maxLen) ∧ Row w B A1 (ints p.cls) ∧ PsAt w B A2 c2 p.subs := by
  obtain ⟨h1, us, h2, h3⟩ := h
  have hl := h3.len
  obtain ⟨b, o, e, hb, hc⟩ := h2 (fun e => by rw [e] at hl; simp at hl; omega)
  obtain ⟨u0, u1, u2, g0, g1, g2, g3⟩ := h3.get (List.getElem?_eq_getElem hk)
  obtain ⟨p, hp⟩ : ∃ p, ps[k] = p := ⟨_, rfl⟩
  rw [hp] at g3
  obtain ⟨kk, cc, ss⟩ := p
  rw [PatAt] at g3
  obtain ⟨A1, c1, A2, c2, vs, e1, e2, e3, e4, e5, e6⟩ := g3
  injection e1 with e1 e1'
  injection e1' with e1' e1''
  injection e1'' with e1'' _
  subst e1 e1' e1''
  refine ⟨b, o, .mk kk cc ss, A1, c1, A2, c2, e, hb, hp ▸ List.getElem?_eq_getElem hk, hc _ _ g0, ?_, ?_, e2, e4, e3, vs, e5, e6⟩
  · rw [Nat.add_assoc]; exact hc _ _ g1
  · rw [Nat.add_assoc]; exact hc _ _ g2
end
end Go.UtYtkoojoogddndnaa
namespace Go.UtYtkoojoogddndnaa
open Go.RowKit Go.ChangeShapes Go.WideShapes Go.Deep
section
variable {H : Type} {enc : TypeId × Value → H} {P : Program}
theorem open_sliceF {w : World} {base : Nat} {t e : TypeId} {fuel : Nat} {v : Value} {x : DataW H × List MemPlace} (ht : P.underlying t = some (.slice e)) (h : DataW.trod enc P w base (fun _ => true) true fuel t [v] = some x) :
    [v] = [.slice none 0 0] ∨ ∃ (a : Addr) (len cap n : Nat), n < fuel ∧ [v] = [.slice (some a) len cap] ∧ len ≤ cap ∧ cap ≤ maxLen ∧ ∀ i, i < len → ∃ cs' y, w.cells? base (a.add (i * P.cellsOf e)) (P.cellsOf e) = some cs' ∧ DataW.trod enc P w base (fun _ => true) true n e cs' = some y := by
  rcases DataW.trod_slice ht h with ⟨h0, _⟩ | ⟨a, len, cap, elems, rest, n, hf, hv, -, -, hl, hm, hlen, hel, -, -⟩
  · exact .inl h0
  · refine .inr ⟨a, len, cap, n, by omega, hv, hl, hm, fun i hi => ?_⟩
    have h1 := hel i hi
    rw [List.getElem?_eq_getElem (by omega)] at h1
    obtain ⟨cs', h2, h3⟩ := Option.bind_eq_some_iff.1 h1
    exact ⟨cs', _, h2, h3⟩
theorem open_listS {α : Type} (R : List Value → α → Prop) {sz : Nat} (hsz : 0 < sz) {w : World} {base : Nat} {t e : TypeId} {fuel : Nat} {v : Value} {x : DataW H × List MemPlace} (ht : P.underlying t = some (.slice e)) (hc : P.cellsOf e = sz)
    (hR : ∀ (n : Nat) (cs : List Value) (x : DataW H × List MemPlace), n < fuel → DataW.trod enc P w base (fun _ => true) true n e cs = some x → ∃ a, R cs a)
    (h : DataW.trod enc P w base (fun _ => true) true fuel t [v] = some x) :
    ∃ (A : Option Addr) (c : Nat) (xs : List α) (vss : List (List Value)), v = .slice A xs.length c ∧ xs.length ≤ c ∧ c ≤ maxLen ∧ vss.length = xs.length ∧ (∀ cs ∈ vss, cs.length = sz) ∧ Row w w.heap.size A vss.flatten ∧ ∀ (k : Nat) (a : α), xs[k]? = some a → ∃ cs, vss[k]? = some cs ∧ R cs a := by
  rcases open_sliceF ht h with h0 | ⟨a, len, cap, fu, hfu, hcs, hl, hm, hel⟩
  · injection h0 with h0
    subst h0
    exact ⟨none, 0, [], [], rfl, by simp, by simp [maxLen], rfl, by simp, Row.nil, fun k a h => by simp at h⟩
  · injection hcs with hcs
    subst hcs
    rw [hc] at hel
    have hlist : ∀ n, n ≤ len → ∃ (xs : List α) (vss : List (List Value)), xs.length = n ∧ vss.length = n ∧ (∀ (k : Nat) (cs : List Value), vss[k]? = some cs → w.cells? base (a.add (k * sz)) sz = some cs) ∧ ∀ (k : Nat) (a : α), xs[k]? = some a → ∃ cs, vss[k]? = some cs ∧ R cs a := by
      intro n
      induction n with
      | zero => exact fun _ => ⟨[], [], rfl, rfl, fun k a h => by simp at h, fun k a h => by simp at h⟩
      | succ n ih =>
        intro hn
        obtain ⟨xs, vss, h1, h2, h3, h4⟩ := ih (by omega)
        obtain ⟨cs', y', g1, g2⟩ := hel n (by omega)
        obtain ⟨y, hy⟩ := hR _ _ _ hfu g2
        refine ⟨xs ++ [y], vss ++ [cs'], by simp [h1], by simp [h2], fun k cs hk => ?_, fun k b hk => ?_⟩
        · rcases Nat.lt_trichotomy k n with q | q | q
          · rw [List.getElem?_append_left (by omega)] at hk
            exact h3 k cs hk
          · subst q
            rw [List.getElem?_append_right (by omega), h2, Nat.sub_self] at hk
            simp at hk
            exact hk ▸ g1
          · rw [List.getElem?_eq_none (by simp; omega)] at hk
            cases hk
        · rcases Nat.lt_trichotomy k n with q | q | q
          · rw [List.getElem?_append_left (by omega)] at hk
            rw [List.getElem?_append_left (by omega)]
            exact h4 k b hk
          · subst q
            rw [List.getElem?_append_right (by omega), h1, Nat.sub_self] at hk
            simp at hk
            rw [List.getElem?_append_right (by omega), h2, Nat.sub_self]
            exact ⟨cs', rfl, hk ▸ hy⟩
          · rw [List.getElem?_eq_none (by simp; omega)] at hk
            cases hk
    obtain ⟨xs, vss, h1, h2, h3, h4⟩ := hlist len (Nat.le_refl _)
    have hcell : ∀ k cs, vss[k]? = some cs → cs.length = sz ∧ ∀ i, i < sz → w.cell? ((a.add (k * sz)).add i) = cs[i]? := fun k cs hk => (World.cells?_some (h3 k cs hk)).2
    refine ⟨some a, cap, xs, vss, by rw [h1], by omega, hm, by omega, fun cs hcs => ?_, fun hne => ?_, h4⟩
    · obtain ⟨k, hk, e⟩ := List.getElem_of_mem hcs
      exact (hcell k cs (e ▸ List.getElem?_eq_getElem hk)).1
    · have hlen : ∀ cs ∈ vss, cs.length = sz := fun cs hcs => by
        obtain ⟨k, hk, e⟩ := List.getElem_of_mem hcs
        exact (hcell k cs (e ▸ List.getElem?_eq_getElem hk)).1
      have hpos : 0 < vss.length := by
        rcases Nat.eq_zero_or_pos vss.length with h0 | h0
        · have := List.eq_nil_of_length_eq_zero h0
          subst this
          simp at hne
        · exact h0
      have hc0 := (hcell 0 vss[0] (List.getElem?_eq_getElem hpos)).2 0 hsz
      have hl0 := (hcell 0 vss[0] (List.getElem?_eq_getElem hpos)).1
      have hc00 : w.cell? a = some ((vss[0])[0]'(by omega)) := by
        rw [← List.getElem?_eq_getElem, ← hc0]
        simp [Addr.add]
      have hs : a.spot = none := by
        unfold World.cell? at hc00
        split at hc00
        · split at hc00
          · cases hc00
          · rename_i hsp
            cases hsp' : a.spot with
            | none => rfl
            | some z => rw [hsp'] at hsp; simp at hsp
        · cases hc00
      obtain ⟨b, o, sp⟩ := a
      simp only at hs
      subst hs
      refine ⟨b, o, rfl, World.block_lt_of_cell? w _ hc00, fun j u hj => ?_⟩
      obtain ⟨cs, g1, g2⟩ := flat_get hsz hlen j u hj
      have hlt : j % sz < sz := Nat.mod_lt _ hsz
      have g3 := (hcell _ cs g1).2 _ hlt
      rw [g2] at g3
      rw [← g3]
      have e1 : o + j = o + (j / sz) * sz + j % sz := by rw [Nat.add_assoc, Nat.mul_comm, Nat.div_add_mod]
      rw [e1]
      unfold Addr.add
      by_cases q1 : (j / sz) * sz = 0 <;> by_cases q2 : j % sz = 0 <;> simp [q1, q2]
end
end Go.UtYtkoojoogddndnaa
namespace Go.Proofs.Ytkoojoogddndnaa
open Go.RowKit Go.ChangeShapes Go.WideShapes Go.Deep Go.Joins Go.UtYtkoojoogddndnaa
theorem cel_pt : Try.prog.cellsOf 77 = 3 := by kernel_rfl
theorem cel_ps : Try.prog.cellsOf 75 = 1 := by kernel_rfl
theorem cel_ru : Try.prog.cellsOf 79 = 7 := by kernel_rfl
theorem cel_rs : Try.prog.cellsOf 54 = 1 := by kernel_rfl
theorem cel_br : Try.prog.cellsOf 56 = 2 := by kernel_rfl
theorem pats_flat {w : World} {B : Nat} : ∀ {ps : List Pat} {vss : List (List Value)}, vss.length = ps.length → (∀ cs ∈ vss, cs.length = 3) → (∀ (k : Nat) (p : Pat), ps[k]? = some p → ∃ cs, vss[k]? = some cs ∧ PatAt w B p cs) → PatsAt w B ps vss.flatten
  | [], vss, hl, _, _ => by
    obtain rfl : vss = [] := List.eq_nil_of_length_eq_zero (by simpa using hl)
    rw [PatsAt]
    rfl
  | p :: ps, [], hl, _, _ => by simp at hl
  | p :: ps, cs :: vss, hl, h3, h => by
    rw [PatsAt]
    obtain ⟨cs', g1, g2⟩ := h 0 p rfl
    simp at g1
    subst g1
    exact ⟨cs, vss.flatten, by simp, h3 cs (by simp), g2, pats_flat (by simpa using hl) (fun c hc => h3 c (by simp [hc])) (fun k q hk => by simpa using h (k + 1) q (by simpa using hk))⟩
section
variable {H : Type} {enc : TypeId × Value → H} {W : World}
set_option maxRecDepth 100000 in
theorem open_pat (n : Nat) : ∀ (m : Nat), m < n → (∀ (v : Value) (x : DataW H × List MemPlace), DataW.trod enc Try.prog W 0 (fun _ => true) true m 75 [v] = some x → ∃ (A : Option Addr) (c : Nat) (ps : List Pat), v = .slice A ps.length c ∧ PsAt W W.heap.size A c ps) ∧
    ∀ (cs : List Value) (x : DataW H × List MemPlace), DataW.trod enc Try.prog W 0 (fun _ => true) true m 77 cs = some x → ∃ p, PatAt W W.heap.size p cs := by
  induction n with
  | zero => intro m h; omega
  | succ n ih =>
    intro m hm
    have hslice : ∀ (v : Value) (x : DataW H × List MemPlace), DataW.trod enc Try.prog W 0 (fun _ => true) true m 75 [v] = some x → ∃ (A : Option Addr) (c : Nat) (ps : List Pat), v = .slice A ps.length c ∧ PsAt W W.heap.size A c ps := fun v x h => by
      obtain ⟨A, c, ps, vss, h1, h2, h3, h4, h5, h6, h7⟩ := open_listS (fun cs (p : Pat) => PatAt W W.heap.size p cs) (sz := 3) (by omega) Try.underlying75 cel_pt (fun k cs x hk hx => (ih k (by omega)).2 cs x hx) h
      exact ⟨A, c, ps, h1, ⟨h2, h3⟩, vss.flatten, h6, pats_flat h4 h5 h7⟩
    refine ⟨hslice, fun cs x h => ?_⟩
    obtain ⟨xs, k, hk, -, hl, hxl, hf⟩ := DataW.trod_struct Try.underlying77 h
    rw [cel_pt] at hl
    match cs, hl, xs, hxl with
    | [a, b, c], _, [y0, y1, y2], _ =>
      have g0 := hf 0 ⟨ "Kind", 3, 0, false, "", "", 0⟩ rfl
      have g1 := hf 1 ⟨ "Classes", 23, 1, false, "", "", 8⟩ rfl
      have g2 := hf 2 ⟨ "Subs", 75, 2, false, "", "", 32⟩ rfl
      simp only [cel_i, cel_si, cel_ps, List.drop_zero, List.take_succ_cons, List.take_zero, List.drop_succ_cons, List.getElem?_cons_zero, List.getElem?_cons_succ] at g0 g1 g2
      obtain ⟨z0, e0, _⟩ := DataW.trod_int Try.underlying3 g0
      obtain ⟨A1, c1, l1, e1, p1, q1, r1, _⟩ := open_row Try.underlying23 Try.underlying3 cel_i g1
      obtain ⟨A2, c2, ps, e2, r2⟩ := (ih k (by omega)).1 _ _ g2
      injection e0 with e0 _
      subst e0 e1 e2
      obtain ⟨⟨r3, r4⟩, us, r5, r6⟩ := r2
      exact ⟨.mk z0 l1 ps, by rw [PatAt]; exact ⟨A1, c1, A2, c2, us, rfl, ⟨p1, q1⟩, ⟨r3, r4⟩, r1, r5, r6⟩⟩
end
end Go.Proofs.Ytkoojoogddndnaa
namespace Go.UtYtkoojoogddndnaa
open Go.RowKit
/-- a rule: action, left, right -/
structure RU where
  act : Int
  left : Pat
  right : Pat
theorem PatAt.open_ {w : World} {B : Nat} {p : Pat} {vs : List Value} (h : PatAt w B p vs) : ∃ A1 c1 A2 c2, vs = [.int .i64 p.kind, .slice A1 p.cls.length c1, .slice A2 p.subs.length c2] ∧ (p.cls.length ≤ c1 ∧ c1 ≤ maxLen) ∧ Row w B A1 (ints p.cls) ∧ PsAt w B A2 c2 p.subs := by
  obtain ⟨k, c, s⟩ := p
  rw [PatAt] at h
  obtain ⟨A1, c1, A2, c2, us, e1, e2, e3, e4, e5, e6⟩ := h
  exact ⟨A1, c1, A2, c2, e1, e2, e4, e3, us, e5, e6⟩
/-- a slice of rules -/
def RusAt (w : World) (B : Nat) (A : Option Addr) (c : Nat) (rs : List RU) : Prop :=
  (rs.length ≤ c ∧ c ≤ maxLen) ∧ ∃ us, us.length = rs.length * 7 ∧ Row w B A us ∧ ∀ (k : Nat) (r : RU), rs[k]? = some r → ∃ l0 l1 l2 r0 r1 r2, us[k * 7]? = some (.int .i64 r.act) ∧ (us[k * 7 + 1]? = some l0 ∧ us[k * 7 + 2]? = some l1 ∧ us[k * 7 + 3]? = some l2 ∧ us[k * 7 + 4]? = some r0 ∧ us[k * 7 + 5]? = some r1 ∧ us[k * 7 + 6]? = some r2) ∧ PatAt w B r.left [l0, l1, l2] ∧ PatAt w B r.right [r0, r1, r2]
section
variable {w w' : World} {B : Nat} {A : Option Addr} {c : Nat} {rs : List RU}
theorem RusAt.below (h : RusAt w B A c rs) (hb : Below B w w') : RusAt w' B A c rs := by
  obtain ⟨h1, us, h2, h3, h4⟩ := h
  refine ⟨h1, us, h2, h3.below hb, fun k r hk => ?_⟩
  obtain ⟨l0, l1, l2, r0, r1, r2, g1, g2, g3, g4⟩ := h4 k r hk
  exact ⟨l0, l1, l2, r0, r1, r2, g1, g2, g3.below hb, g4.below hb⟩
theorem RusAt.lt (h : RusAt w B A c rs) : RusAt w w.heap.size A c rs := by
  obtain ⟨h1, us, h2, h3, h4⟩ := h
  refine ⟨h1, us, h2, h3.lt, fun k r hk => ?_⟩
  obtain ⟨l0, l1, l2, r0, r1, r2, g1, g2, g3, g4⟩ := h4 k r hk
  exact ⟨l0, l1, l2, r0, r1, r2, g1, g2, g3.lt, g4.lt⟩
/-- what a slice of patterns, a pattern's classes are: where, and how far -/
def PvAt (w : World) (B : Nat) (p : Pat) (A1 : Option Addr) (c1 : Nat) (A2 : Option Addr) (c2 : Nat) : Prop := (p.cls.length ≤ c1 ∧ c1 ≤ maxLen) ∧ Row w B A1 (ints p.cls) ∧ PsAt w B A2 c2 p.subs
theorem PvAt.below {p : Pat} {A1 A2 : Option Addr} {c1 c2 : Nat} (h : PvAt w B p A1 c1 A2 c2) (hb : Below B w w') : PvAt w' B p A1 c1 A2 c2 := ⟨h.1, h.2.1.below hb, h.2.2.below hb⟩
theorem PvAt.lt {p : Pat} {A1 A2 : Option Addr} {c1 c2 : Nat} (h : PvAt w B p A1 c1 A2 c2) : PvAt w w.heap.size p A1 c1 A2 c2 := ⟨h.1, h.2.1.lt, h.2.2.lt⟩
theorem RusAt.at_ (h : RusAt w B A c rs) {k : Nat} (hk : k < rs.length) :
    ∃ b o r A1 c1 A2 c2 A3 c3 A4 c4, A = some ⟨b, o, none⟩ ∧ b < B ∧ Hid (rs[k]? = some r) ∧ w.cell? ⟨b, o + k * 7, none⟩ = some (.int .i64 r.act) ∧ (w.cell? ⟨b, o + k * 7 + 1, none⟩ = some (.int .i64 r.left.kind) ∧ w.cell? ⟨b, o + k * 7 + 2, none⟩ = some (.slice A1 r.left.cls.length c1) ∧ w.cell? ⟨b, o + k * 7 + 3, none⟩ = some (.slice A2 r.left.subs.length c2) ∧
      w.cell? ⟨b, o + k * 7 + 4, none⟩ = some (.int .i64 r.right.kind) ∧ w.cell? ⟨b, o + k * 7 + 5, none⟩ = some (.slice A3 r.right.cls.length c3) ∧ w.cell? ⟨b, o + k * 7 + 6, none⟩ = some (.slice A4 r.right.subs.length c4)) ∧ PvAt w B r.left A1 c1 A2 c2 ∧ PvAt w B r.right A3 c3 A4 c4 := by
  obtain ⟨h1, us, h2, h3, h4⟩ := h
  obtain ⟨b, o, e, hb, hc⟩ := h3 (fun e => by rw [e] at h2; simp at h2; omega)
  obtain ⟨l0, l1, l2, r0, r1, r2, g1, ⟨q1, q2, q3, q4, q5, q6⟩, g3, g4⟩ := h4 k rs[k] (List.getElem?_eq_getElem hk)
  obtain ⟨A1, c1, A2, c2, e1, m1, m2, m3⟩ := g3.open_
  obtain ⟨A3, c3, A4, c4, e2, n1, n2, n3⟩ := g4.open_
  injection e1 with e1 e1'
  injection e1' with e1' e1''
  injection e1'' with e1'' _
  injection e2 with e2 e2'
  injection e2' with e2' e2''
  injection e2'' with e2'' _
  subst e1 e1' e1'' e2 e2' e2''
  refine ⟨b, o, rs[k], A1, c1, A2, c2, A3, c3, A4, c4, e, hb, List.getElem?_eq_getElem hk, hc _ _ g1, ⟨?_, ?_, ?_, ?_, ?_, ?_⟩, ⟨m1, m2, m3⟩, ⟨n1, n2, n3⟩⟩ <;> (rw [Nat.add_assoc]; first | exact hc _ _ q1 | exact hc _ _ q2 | exact hc _ _ q3 | exact hc _ _ q4 | exact hc _ _ q5 | exact hc _ _ q6)
end
end Go.UtYtkoojoogddndnaa
namespace Go.Proofs.Ytkoojoogddndnaa
open Go.RowKit Go.ChangeShapes Go.WideShapes Go.Deep Go.Joins Go.UtYtkoojoogddndnaa
section
variable {H : Type} {enc : TypeId × Value → H} {W : World}
set_option maxRecDepth 100000 in
theorem open_ruls {n : Nat} {v : Value} {x : DataW H × List MemPlace} (h : DataW.trod enc Try.prog W 0 (fun _ => true) true n 54 [v] = some x) :
    ∃ (A : Option Addr) (c : Nat) (rs : List RU), v = .slice A rs.length c ∧ RusAt W W.heap.size A c rs := by
  obtain ⟨A, c, rs, vss, h1, h2, h3, h4, h5, h6, h7⟩ := open_listN (fun cs (r : RU) => ∃ l0 l1 l2 r0 r1 r2, cs = [.int .i64 r.act, l0, l1, l2, r0, r1, r2] ∧ PatAt W W.heap.size r.left [l0, l1, l2] ∧ PatAt W W.heap.size r.right [r0, r1, r2]) (sz := 7) (by omega) Try.underlying54 cel_ru (fun n cs x hx => by
    obtain ⟨y0, y1, y2, m, -, hl, g0, g1, g2⟩ := trod_struct3 (f0 := ⟨ "Action", 3, 0, false, "", "", 0⟩) (f1 := ⟨ "Left", 77, 1, false, "", "", 8⟩) (f2 := ⟨ "Right", 77, 4, false, "", "", 64⟩) Try.underlying79 hx
    rw [cel_ru] at hl
    match cs, hl with
    | [a, b0, b1, b2, c0, c1, c2], _ =>
      simp only [cel_i, cel_pt, List.drop_zero, List.take_succ_cons, List.take_zero, List.drop_succ_cons] at g0 g1 g2
      obtain ⟨z0, e0, _⟩ := DataW.trod_int Try.underlying3 g0
      obtain ⟨pl, hpl⟩ := (open_pat (m + 1) m (by omega)).2 _ _ g1
      obtain ⟨pr, hpr⟩ := (open_pat (m + 1) m (by omega)).2 _ _ g2
      injection e0 with e0 _
      subst e0
      exact ⟨⟨z0, pl, pr⟩, b0, b1, b2, c0, c1, c2, rfl, hpl, hpr⟩) h
  refine ⟨A, c, rs, h1, ⟨h2, h3⟩, vss.flatten, ?_, h6, fun k r hk => ?_⟩
  · rw [← h4]
    clear h6 h7 h4
    induction vss with
    | nil => rfl
    | cons cs vss ih =>
      have hcs := h5 cs (by simp)
      have hih := ih (fun c hc => h5 c (by simp [hc]))
      rw [List.flatten_cons, List.length_append, hih, hcs, List.length_cons]
      omega
  · obtain ⟨cs, g1, l0, l1, l2, r0, r1, r2, g2, g3, g4⟩ := h7 k r hk
    have hfl : ∀ (vss : List (List Value)) (k : Nat) (cs : List Value), (∀ c ∈ vss, c.length = 7) → vss[k]? = some cs → ∀ i, i < 7 → vss.flatten[k * 7 + i]? = cs[i]? := by
      intro vss
      induction vss with
      | nil => intro k cs _ h; simp at h
      | cons d vss ih =>
        intro k cs hl h i hi
        have hd := hl d (by simp)
        rw [List.flatten_cons]
        cases k with
        | zero =>
          simp at h
          subst h
          rw [List.getElem?_append_left (by omega)]
          simp
        | succ k =>
          rw [List.getElem?_append_right (by omega), hd, show (k + 1) * 7 + i - 7 = k * 7 + i by omega]
          exact ih k cs (fun c hc => hl c (by simp [hc])) (by simpa using h) i hi
    have hq := hfl vss k cs h5 g1
    subst g2
    exact ⟨l0, l1, l2, r0, r1, r2, hq 0 (by omega), ⟨hq 1 (by omega), hq 2 (by omega), hq 3 (by omega), hq 4 (by omega), hq 5 (by omega), hq 6 (by omega)⟩, g3, g4⟩
set_option maxRecDepth 100000 in
theorem open_rules28 {v : Value} {d : DataW H} {p : List MemPlace} {base : Nat} (hv : Value.okWide Try.prog W .any base 56 v) (h : DataW.Trod enc Try.prog W 0 (fun _ => true) true 56 v d p) :
    ∃ (A : Option Addr) (c : Nat) (l : List Nm) (A' : Option Addr) (c' : Nat) (rs : List RU), v = .agg #[.slice A l.length c, .slice A' rs.length c'] ∧ (StrsAt W W.heap.size A l ∧ l.length ≤ c ∧ c ≤ maxLen) ∧ RusAt W W.heap.size A' c' rs := by
  obtain ⟨cs, rfl, hsz⟩ := okWide_struct Try.underlying56 hv
  rw [cel_br] at hsz
  obtain ⟨c0, c1, rfl⟩ := array2' hsz
  obtain ⟨fuel, hf⟩ := h
  obtain ⟨y0, y1, m, -, hl, g0, g1⟩ := trod_struct2 (f0 := ⟨ "Classes", 22, 0, false, "", "", 0⟩) (f1 := ⟨ "Rules", 54, 1, false, "", "", 24⟩) Try.underlying56 hf
  simp only [Value.cells, cel_sl, cel_rs, List.drop_zero, List.take_succ_cons, List.take_zero, List.drop_succ_cons] at g0 g1
  obtain ⟨A0, k0, l0, rfl, p0, q0, r0⟩ := open_strl Try.underlying22 Try.underlying9 cel_s g0
  obtain ⟨A1, k1, rs, rfl, r1⟩ := open_ruls g1
  exact ⟨A0, k0, l0, A1, k1, rs, rfl, ⟨r0, p0, q0⟩, r1⟩
end
end Go.Proofs.Ytkoojoogddndnaa
namespace Go.UtYtkoojoogddndnaa
theorem Pat.ind {P : Pat → Prop} (h : ∀ k c s, (∀ q ∈ s, P q) → P (.mk k c s)) : ∀ p, P p
  | .mk k c s => h k c s (fun q _ => Pat.ind h q)
mutual
/-- the number of parts -/
def nodes : Pat → Nat
  | .mk _ _ s => 1 + nodesL s
def nodesL : List Pat → Nat
  | [] => 0
  | p :: ps => nodes p + nodesL ps
end
theorem nodes_eq (p : Pat) : nodes p = 1 + nodesL p.subs := by
  obtain ⟨k, c, s⟩ := p
  rw [nodes]
  rfl
theorem nodesL_append : ∀ (a b : List Pat), nodesL (a ++ b) = nodesL a + nodesL b
  | [], b => by simp [nodesL]
  | p :: a, b => by
    rw [List.cons_append, nodesL, nodesL, nodesL_append a b]
    omega
theorem nodesL_take {l : List Pat} {k : Nat} {p : Pat} (h : l[k]? = some p) : nodesL (l.take (k + 1)) = nodesL (l.take k) + nodes p := by
  obtain ⟨h1, h2⟩ := List.getElem?_eq_some_iff.1 h
  rw [List.take_succ_eq_append_getElem h1, h2, nodesL_append, nodesL, nodesL]
  omega
end Go.UtYtkoojoogddndnaa
namespace Go.Proofs.Ytkoojoogddndnaa
open Go.RowKit Go.UtYtkoojoogddndnaa
/-- what Parts returns -/
def PtP (p : Pat) (most : Int) (v : Nat) : Prop := 1 ≤ v ∧ (v : Int) ≤ max most 0 + 1 ∧ ((v : Int) ≤ most → v = nodes p)
set_option maxRecDepth 100000 in
set_option maxHeartbeats 2000000 in
theorem parts28_any : ∀ (p : Pat) (A1 : Option Addr) (c1 : Nat) (A2 : Option Addr) (c2 : Nat) (most : Int) (w : World), -1000000 ≤ most ∧ most ≤ 1000000 → PvAt w w.heap.size p A1 c1 A2 c2 →
    Calls Try.prog 49 #[.agg #[.int .i64 p.kind, .slice A1 p.cls.length c1, .slice A2 p.subs.length c2], .int .i64 most] w fun e w' => ∃ v : Nat, e = .returned (.int .i64 (v : Int)) ∧ PtP p most v ∧ Below w.heap.size w w' := by
  intro p
  induction p using Pat.ind with
  | h k cl s ih =>
    intro A1 c1 A2 c2 most w hmo hP
    have IH := Lib.hid ih
    have HP := Lib.hid hP
    simp only [Pat.kind, Pat.cls, Pat.subs]
    obtain ⟨nc, hnc⟩ : ∃ n, cl.length = n := ⟨_, rfl⟩
    obtain ⟨n, hn⟩ : ∃ n, s.length = n := ⟨_, rfl⟩
    have HN := Lib.hid hn
    rw [hnc, hn]
    have HNO := Lib.hid (nodes_eq (.mk k cl s))
    obtain ⟨w1, hw1, HB1, HK1⟩ := boxV w 77 #[.int .i64 k, .slice A1 nc c1, .slice A2 n c2]
    have HPS : Hid (PsAt w w.heap.size A2 c2 s) := Lib.hid hP.2.2
    have hn31 : n ≤ 9223372036854775807 := by have := HPS.out.1; rw [HN.out] at this; simp only [maxLen] at this; omega
    clear ih hP hnc hn HP
    go_enter Try.func49, Try.ntmps49
    go_upto_region 1 with fail
    rw [← hw1]
    clear hw1
    have hbs1 := HB1.out.size
    go_wp2
    go_loopw [5, 6] (fun nv iv wr => ∃ (j : Nat) (m : Nat), j ≤ n ∧ iv = .int .i64 (j : Int) ∧ nv = .int .i64 (m : Int) ∧ 1 ≤ m ∧ (m : Int) ≤ max most 0 + 1 ∧ Hid ((m : Int) ≤ most → m = 1 + nodesL (s.take j)) ∧ Hid (Below w1.heap.size w1 wr)) (fun _ i _ => n - (intOf i).toNat)
    case atStart => exact ⟨0, 1, by omega, rfl, rfl, by omega, by omega, fun _ => by simp [nodesL], Below.refl _ _⟩
    case round =>
      obtain ⟨j, m, hj, rfl, rfl, hm1, hm2, HE, HB⟩ := hrel
      have HBw := Lib.hid (HB1.out.trans (HB.out.mono hbs1))
      have HKr := Lib.hid (HK1.out.after HB.out)
      have p0 := HKr.out.cell 0
      have p1 := HKr.out.cell 1
      have p2 := HKr.out.cell 2
      have pl := HKr.out.lt
      simp only [List.getElem?_toArray, List.getElem?_cons_zero, List.getElem?_cons_succ] at p0 p1 p2
      by_cases hjn : j < n
      · by_cases hmm : (m : Int) ≤ most
        · have d1 : decide ((m : Int) ≤ most) = true := decide_eq_true hmm
          obtain ⟨b, o, q, B1, e1, B2, e2, rfl, hb, hq, q0, q1, q2, g1, g2, g3⟩ := (HPS.out.below HBw.out).at_ (k := j) (by rw [HN.out]; exact hjn)
          have hbl : b < wr.heap.size := by have := HBw.out.size; omega
          have CQ := Lib.hid (IH.out q (List.mem_of_getElem? hq.out) B1 e1 B2 e2 (most - (m : Int)) wr (by omega) ⟨g1, g2.lt, g3.lt⟩)
          obtain ⟨qk, hqk⟩ : ∃ z, q.kind = z := ⟨_, rfl⟩
          obtain ⟨qn, hqn⟩ : ∃ z, q.cls.length = z := ⟨_, rfl⟩
          obtain ⟨qs, hqs⟩ : ∃ z, q.subs.length = z := ⟨_, rfl⟩
          rw [hqk, hqn, hqs] at CQ
          rw [hqk] at q0
          rw [hqn] at q1
          rw [hqs] at q2
          clear hqk hqn hqs g1 g2 g3
          go_wp2_with fail
          refine CQ.out.mono ?_
          rintro e w2 ⟨v, rfl, hv, hb2⟩
          have HB2 : Hid (Below w1.heap.size w1 w2) := HB.out.trans (hb2.mono HB.out.size)
          obtain ⟨v1, v2, v3⟩ := hv
          have HE2 : Hid (((m + v : Nat) : Int) ≤ most → m + v = 1 + nodesL (s.take (j + 1))) := Lib.hid (fun h => by
            rw [nodesL_take hq.out, ← v3 (by omega)]
            have := HE.out hmm
            omega)
          clear hb2
          go_wp2
          go_roundw
          case rel => exact ⟨j + 1, m + v, by omega, by go_num, by go_num, by omega, by omega, HE2, HB2⟩
          case measure => simp [intOf] <;> omega
        · have d1 : decide ((m : Int) ≤ most) = false := decide_eq_false hmm
          go_wp2
          go_ret
          exact ⟨m, rfl, ⟨hm1, hm2, fun h => by omega⟩, HBw.out⟩
      · obtain rfl : j = n := by omega
        have HF : Hid ((m : Int) ≤ most → m = nodes (.mk k cl s)) := Lib.hid (fun h => by
          have := HE.out h
          rw [List.take_of_length_le (by rw [HN.out]; exact Nat.le_refl _)] at this
          rw [HNO.out]
          exact this)
        go_wp2
        go_ret
        exact ⟨m, rfl, ⟨hm1, hm2, HF.out⟩, HBw.out⟩
set_option maxRecDepth 100000 in
set_option maxHeartbeats 2000000 in
theorem deep28_any : ∀ (p : Pat) (A1 : Option Addr) (c1 : Nat) (A2 : Option Addr) (c2 : Nat) (dp : Nat) (w : World), dp ≤ 1000000 → PvAt w w.heap.size p A1 c1 A2 c2 →
    Calls Try.prog 50 #[.agg #[.int .i64 p.kind, .slice A1 p.cls.length c1, .slice A2 p.subs.length c2], .int .i64 (dp : Int)] w fun e w' => ∃ v : Bool, e = .returned (.bool v) ∧ Below w.heap.size w w' := by
  intro p
  induction p using Pat.ind with
  | h k cl s ih =>
    intro A1 c1 A2 c2 dp w hdp hP
    have IH := Lib.hid ih
    simp only [Pat.kind, Pat.cls, Pat.subs]
    have HPS : Hid (PsAt w w.heap.size A2 c2 s) := Lib.hid hP.2.2
    obtain ⟨nc, hnc⟩ : ∃ n, cl.length = n := ⟨_, rfl⟩
    obtain ⟨n, hn⟩ : ∃ n, s.length = n := ⟨_, rfl⟩
    have HN := Lib.hid hn
    rw [hnc, hn]
    obtain ⟨w1, hw1, HB1, HK1⟩ := boxV w 77 #[.int .i64 k, .slice A1 nc c1, .slice A2 n c2]
    have p0 := HK1.out.cell 0
    have p1 := HK1.out.cell 1
    have p2 := HK1.out.cell 2
    have pl := HK1.out.lt
    simp only [List.getElem?_toArray, List.getElem?_cons_zero, List.getElem?_cons_succ] at p0 p1 p2
    have hn31 : n ≤ 9223372036854775807 := by have := HPS.out.1; rw [HN.out] at this; simp only [maxLen] at this; omega
    clear ih hP hnc hn
    have hbs1 := HB1.out.size
    by_cases hd0 : dp = 0
    · subst hd0
      go_enter Try.func50, Try.ntmps50
      go_upto_region 1 with fail
      rw [← hw1]
      clear hw1
      go_wp2
      go_ret
      exact ⟨false, rfl, HB1.out⟩
    · have e0 : ((dp : Int) == 0) = false := by simp; omega
      by_cases h60 : 60 < nc
      · have d1 : decide (60 < nc) = true := decide_eq_true h60
        have d1' : decide (60 < (nc : Int)) = true := decide_eq_true (by omega)
        go_enter Try.func50, Try.ntmps50
        go_upto_region 1 with fail
        rw [← hw1]
        clear hw1
        go_wp2
        go_ret
        exact ⟨false, rfl, HB1.out⟩
      · have d1 : decide (60 < nc) = false := decide_eq_false h60
        have d1' : decide (60 < (nc : Int)) = false := decide_eq_false (by omega)
        go_enter Try.func50, Try.ntmps50
        go_upto_region 1 with fail
        rw [← hw1]
        clear hw1
        go_wp2
        clear p0 p1 p2 pl
        go_loopw [5] (fun iv wr => ∃ (j : Nat), j ≤ n ∧ iv = .int .i64 (j : Int) ∧ Hid (Below w1.heap.size w1 wr)) (fun i _ => n - (intOf i).toNat)
        case atStart => exact ⟨0, by omega, rfl, Below.refl _ _⟩
        case round =>
          obtain ⟨j, hj, rfl, HB⟩ := hrel
          have HBw := Lib.hid (HB1.out.trans (HB.out.mono hbs1))
          have HKr := Lib.hid (HK1.out.after HB.out)
          have p0 := HKr.out.cell 0
          have p1 := HKr.out.cell 1
          have p2 := HKr.out.cell 2
          have pl := HKr.out.lt
          simp only [List.getElem?_toArray, List.getElem?_cons_zero, List.getElem?_cons_succ] at p0 p1 p2
          by_cases hjn : j < n
          · obtain ⟨b, o, q, B1, e1, B2, e2, rfl, hb, hq, q0, q1, q2, g1, g2, g3⟩ := (HPS.out.below HBw.out).at_ (k := j) (by rw [HN.out]; exact hjn)
            have hbl : b < wr.heap.size := by have := HBw.out.size; omega
            obtain ⟨d', hd'⟩ : ∃ d' : Nat, dp = d' + 1 := ⟨dp - 1, by omega⟩
            have CQ := IH.out q (List.mem_of_getElem? hq.out) B1 e1 B2 e2 d' wr (by omega) ⟨g1, g2.lt, g3.lt⟩
            rw [show (d' : Int) = (dp : Int) - 1 by omega] at CQ
            obtain ⟨qk, hqk⟩ : ∃ z, q.kind = z := ⟨_, rfl⟩
            obtain ⟨qn, hqn⟩ : ∃ z, q.cls.length = z := ⟨_, rfl⟩
            obtain ⟨qs, hqs⟩ : ∃ z, q.subs.length = z := ⟨_, rfl⟩
            rw [hqk, hqn, hqs] at CQ
            rw [hqk] at q0
            rw [hqn] at q1
            rw [hqs] at q2
            replace CQ := Lib.hid CQ
            clear hqk hqn hqs g1 g2 g3 hd'
            go_wp2_with fail
            refine CQ.out.mono ?_
            rintro e w2 ⟨v, rfl, hb2⟩
            have HB2 : Hid (Below w1.heap.size w1 w2) := HB.out.trans (hb2.mono HB.out.size)
            have HB2w := Lib.hid (HB1.out.trans (HB2.out.mono hbs1))
            clear hb2
            cases v
            · go_wp2
              go_ret
              exact ⟨false, rfl, HB2w.out⟩
            · go_wp2
              go_roundw
              case rel => exact ⟨j + 1, by omega, by go_num, HB2⟩
              case measure => simp [intOf] <;> omega
          · go_wp2
            go_ret
            exact ⟨true, rfl, HBw.out⟩
/-- what Small grants -/
def smRu (l : List Nm) (rs : List RU) : Prop := (l.length ≤ 6 ∧ rs.length ≤ 6) ∧ ∀ r ∈ rs, nodes r.left ≤ 12 ∧ nodes r.right ≤ 12
set_option maxRecDepth 100000 in
set_option maxHeartbeats 4000000 in
theorem small28_any (A A' : Option Addr) (c c' : Nat) (l : List Nm) (rs : List RU) (w : World) (hR : RusAt w w.heap.size A' c' rs) (hlm : l.length ≤ maxLen) :
    Calls Try.prog 31 #[.agg #[.slice A l.length c, .slice A' rs.length c']] w fun e w' => ∃ v : Bool, e = .returned (.bool v) ∧ (v = true → smRu l rs) ∧ Below w.heap.size w w' := by
  have HR := Lib.hid hR
  have CP := Lib.hid parts28_any
  have CD := Lib.hid deep28_any
  obtain ⟨nl, hnl⟩ : ∃ n, l.length = n := ⟨_, rfl⟩
  obtain ⟨n, hn⟩ : ∃ n, rs.length = n := ⟨_, rfl⟩
  have HNL := Lib.hid hnl
  have HN := Lib.hid hn
  have hn31 : n ≤ 9223372036854775807 := by have := HR.out.1; rw [HN.out] at this; simp only [maxLen] at this; omega
  have hl31 : nl ≤ 9223372036854775807 := by rw [← hnl]; simpa [maxLen] using hlm
  rw [hnl, hn]
  obtain ⟨w1, hw1, HB1, HK1⟩ := boxV w 56 #[.slice A nl c, .slice A' n c']
  obtain ⟨p0, p1, pl⟩ := blk2 HK1.out
  have hbs1 := HB1.out.size
  clear hR hnl hn hlm
  by_cases h1 : 6 < nl
  · have d1 : decide (6 < nl) = true := decide_eq_true h1
    have d1' : decide (6 < (nl : Int)) = true := decide_eq_true (by omega)
    go_enter Try.func31, Try.ntmps31
    go_upto_region 1 with fail
    rw [← hw1]
    clear hw1
    go_wp2
    go_ret
    exact ⟨false, rfl, fun h => (by cases h), HB1.out⟩
  have d1 : decide (6 < nl) = false := decide_eq_false h1
  have d1' : decide (6 < (nl : Int)) = false := decide_eq_false (by omega)
  by_cases h2 : 6 < n
  · have d2 : decide (6 < n) = true := decide_eq_true h2
    have d2' : decide (6 < (n : Int)) = true := decide_eq_true (by omega)
    go_enter Try.func31, Try.ntmps31
    go_upto_region 1 with fail
    rw [← hw1]
    clear hw1
    go_wp2
    go_ret
    exact ⟨false, rfl, fun h => (by cases h), HB1.out⟩
  have d2 : decide (6 < n) = false := decide_eq_false h2
  have d2' : decide (6 < (n : Int)) = false := decide_eq_false (by omega)
  go_enter Try.func31, Try.ntmps31
  go_upto_region 1 with fail
  rw [← hw1]
  clear hw1
  go_wp2
  clear p0 p1 pl
  go_loopw [3] (fun iv wr => ∃ (j : Nat), j ≤ n ∧ iv = .int .i64 (j : Int) ∧ Hid (∀ r ∈ rs.take j, nodes r.left ≤ 12 ∧ nodes r.right ≤ 12) ∧ Hid (Below w1.heap.size w1 wr)) (fun i _ => n - (intOf i).toNat)
  case atStart => exact ⟨0, by omega, rfl, fun r hr => by simp at hr, Below.refl _ _⟩
  case round =>
    obtain ⟨j, hj, rfl, HI, HB⟩ := hrel
    have HBw := Lib.hid (HB1.out.trans (HB.out.mono hbs1))
    have HKr := Lib.hid (HK1.out.after HB.out)
    obtain ⟨p0, p1, pl⟩ := blk2 HKr.out
    by_cases hjn : j < n
    · obtain ⟨b, o, r, A1, c1, A2, c2, A3, c3, A4, c4, rfl, hb, hr, q0, ⟨q1, q2, q3, q4, q5, q6⟩, gl, gr⟩ := (HR.out.below HBw.out).at_ (k := j) (by rw [HN.out]; exact hjn)
      have hbl : b < wr.heap.size := by have := HBw.out.size; omega
      obtain ⟨w2, hw2, HB2', HK2⟩ := boxV wr 79 #[.int .i64 r.act, .int .i64 r.left.kind, .slice A1 r.left.cls.length c1, .slice A2 r.left.subs.length c2, .int .i64 r.right.kind, .slice A3 r.right.cls.length c3, .slice A4 r.right.subs.length c4]
      have HB2 := Lib.hid (HB.out.trans (HB2'.out.mono HB.out.size))
      have HB2w := Lib.hid (HB1.out.trans (HB2.out.mono hbs1))
      have GL := Lib.hid (fun (u : World) (hu : Below w.heap.size w u) => ((HR.out.below hu).at_ (k := j) (by rw [HN.out]; exact hjn)))
      have HGL := Lib.hid (fun (u : World) (hu : Below wr.heap.size wr u) => ((gl.lt).below hu).lt)
      have HGR := Lib.hid (fun (u : World) (hu : Below wr.heap.size wr u) => ((gr.lt).below hu).lt)
      have CL := Lib.hid (fun (u : World) (hu : Below wr.heap.size wr u) => CP.out r.left A1 c1 A2 c2 12 u (by omega) (HGL.out u hu))
      have CR := Lib.hid (fun (u : World) (hu : Below wr.heap.size wr u) => CP.out r.right A3 c3 A4 c4 12 u (by omega) (HGR.out u hu))
      have DL := Lib.hid (fun (u : World) (hu : Below wr.heap.size wr u) => CD.out r.left A1 c1 A2 c2 4 u (by omega) (HGL.out u hu))
      have DR := Lib.hid (fun (u : World) (hu : Below wr.heap.size wr u) => CD.out r.right A3 c3 A4 c4 4 u (by omega) (HGR.out u hu))
      obtain ⟨lk, hlk⟩ : ∃ z, r.left.kind = z := ⟨_, rfl⟩
      obtain ⟨ln, hln⟩ : ∃ z, r.left.cls.length = z := ⟨_, rfl⟩
      obtain ⟨ls, hls⟩ : ∃ z, r.left.subs.length = z := ⟨_, rfl⟩
      obtain ⟨rk, hrk⟩ : ∃ z, r.right.kind = z := ⟨_, rfl⟩
      obtain ⟨rn, hrn⟩ : ∃ z, r.right.cls.length = z := ⟨_, rfl⟩
      obtain ⟨rs', hrs⟩ : ∃ z, r.right.subs.length = z := ⟨_, rfl⟩
      obtain ⟨ra, hra⟩ : ∃ z, r.act = z := ⟨_, rfl⟩
      rw [hlk, hln, hls] at CL DL
      rw [hrk, hrn, hrs] at CR DR
      rw [hra] at q0
      rw [hlk] at q1
      rw [hln] at q2
      rw [hls] at q3
      rw [hrk] at q4
      rw [hrn] at q5
      rw [hrs] at q6
      rw [hra, hlk, hln, hls, hrk, hrn, hrs] at HK2 hw2
      clear hra hlk hln hls hrk hrn hrs gl gr GL HGL HGR
      have c0 := fun (u : World) (hu : Below w2.heap.size w2 u) => (HK2.out.after hu)
      have CK := Lib.hid c0
      clear c0
      have HX2 : Hid (Below w2.heap.size w2 w2) := Below.refl _ _
      have HR2 : Hid (Below wr.heap.size wr w2) := HB2'.out
      go_wp2_with fail
      rw [← hw2]
      clear hw2
      refine (CL.out w2 HR2.out).mono ?_
      rintro e w3 ⟨v1, rfl, ⟨h11, h12, h13⟩, hb3⟩
      have HX3 : Hid (Below w2.heap.size w2 w3) := HX2.out.trans (hb3.mono HX2.out.size)
      have HR3 : Hid (Below wr.heap.size wr w3) := HB2'.out.trans (HX3.out.mono HB2'.out.size)
      have HW3 := Lib.hid (HB2w.out.trans (HX3.out.mono HB2w.out.size))
      clear hb3
      by_cases g1 : 12 < v1
      · have e1 : decide (12 < v1) = true := decide_eq_true g1
        have e1' : decide (12 < (v1 : Int)) = true := decide_eq_true (by omega)
        go_wp2
        go_ret
        exact ⟨false, rfl, fun h => (by cases h), HW3.out⟩
      have e1 : decide (12 < v1) = false := decide_eq_false g1
      have e1' : decide (12 < (v1 : Int)) = false := decide_eq_false (by omega)
      have HN1 : Hid (v1 = nodes r.left) := Lib.hid (h13 (by omega))
      obtain ⟨t0, t1, t2, t3, t4, t5, t6⟩ := (show _ ∧ _ ∧ _ ∧ _ ∧ _ ∧ _ ∧ _ from ⟨(CK.out w3 HX3.out).cell 0, (CK.out w3 HX3.out).cell 1, (CK.out w3 HX3.out).cell 2, (CK.out w3 HX3.out).cell 3, (CK.out w3 HX3.out).cell 4, (CK.out w3 HX3.out).cell 5, (CK.out w3 HX3.out).cell 6⟩)
      have tl := (CK.out w3 HX3.out).lt
      simp only [List.getElem?_toArray, List.getElem?_cons_zero, List.getElem?_cons_succ] at t0 t1 t2 t3 t4 t5 t6
      go_wp2_with fail
      refine (CR.out w3 HR3.out).mono ?_
      rintro e w4 ⟨v2, rfl, ⟨h21, h22, h23⟩, hb4⟩
      have HX4 : Hid (Below w2.heap.size w2 w4) := HX3.out.trans (hb4.mono HX3.out.size)
      have HR4 : Hid (Below wr.heap.size wr w4) := HB2'.out.trans (HX4.out.mono HB2'.out.size)
      have HW4 := Lib.hid (HB2w.out.trans (HX4.out.mono HB2w.out.size))
      clear hb4
      clear t0 t1 t2 t3 t4 t5 t6 tl
      by_cases g2 : 12 < v2
      · have e2 : decide (12 < v2) = true := decide_eq_true g2
        have e2' : decide (12 < (v2 : Int)) = true := decide_eq_true (by omega)
        go_wp2
        go_ret
        exact ⟨false, rfl, fun h => (by cases h), HW4.out⟩
      have e2 : decide (12 < v2) = false := decide_eq_false g2
      have e2' : decide (12 < (v2 : Int)) = false := decide_eq_false (by omega)
      have HN2 : Hid (v2 = nodes r.right) := Lib.hid (h23 (by omega))
      have HI2 : Hid (∀ r ∈ rs.take (j + 1), nodes r.left ≤ 12 ∧ nodes r.right ≤ 12) := Lib.hid (all_snoc (P := fun r : RU => nodes r.left ≤ 12 ∧ nodes r.right ≤ 12) HI.out hr.out ⟨by rw [← HN1.out]; omega, by rw [← HN2.out]; omega⟩)
      clear h11 h12 h13 h21 h22 h23
      obtain ⟨t0, t1, t2, t3, t4, t5, t6⟩ := (show _ ∧ _ ∧ _ ∧ _ ∧ _ ∧ _ ∧ _ from ⟨(CK.out w4 HX4.out).cell 0, (CK.out w4 HX4.out).cell 1, (CK.out w4 HX4.out).cell 2, (CK.out w4 HX4.out).cell 3, (CK.out w4 HX4.out).cell 4, (CK.out w4 HX4.out).cell 5, (CK.out w4 HX4.out).cell 6⟩)
      have tl := (CK.out w4 HX4.out).lt
      simp only [List.getElem?_toArray, List.getElem?_cons_zero, List.getElem?_cons_succ] at t0 t1 t2 t3 t4 t5 t6
      go_wp2_with fail
      refine (DL.out w4 HR4.out).mono ?_
      rintro e w5 ⟨v3, rfl, hb5⟩
      have HX5 : Hid (Below w2.heap.size w2 w5) := HX4.out.trans (hb5.mono HX4.out.size)
      have HR5 : Hid (Below wr.heap.size wr w5) := HB2'.out.trans (HX5.out.mono HB2'.out.size)
      have HW5 := Lib.hid (HB2w.out.trans (HX5.out.mono HB2w.out.size))
      clear hb5
      clear t0 t1 t2 t3 t4 t5 t6 tl
      cases v3
      · go_wp2
        go_ret
        exact ⟨false, rfl, fun h => (by cases h), HW5.out⟩
      obtain ⟨t0, t1, t2, t3, t4, t5, t6⟩ := (show _ ∧ _ ∧ _ ∧ _ ∧ _ ∧ _ ∧ _ from ⟨(CK.out w5 HX5.out).cell 0, (CK.out w5 HX5.out).cell 1, (CK.out w5 HX5.out).cell 2, (CK.out w5 HX5.out).cell 3, (CK.out w5 HX5.out).cell 4, (CK.out w5 HX5.out).cell 5, (CK.out w5 HX5.out).cell 6⟩)
      have tl := (CK.out w5 HX5.out).lt
      simp only [List.getElem?_toArray, List.getElem?_cons_zero, List.getElem?_cons_succ] at t0 t1 t2 t3 t4 t5 t6
      go_wp2_with fail
      refine (DR.out w5 HR5.out).mono ?_
      rintro e w6 ⟨v4, rfl, hb6⟩
      have HX6 : Hid (Below w2.heap.size w2 w6) := HX5.out.trans (hb6.mono HX5.out.size)
      have HR6 : Hid (Below wr.heap.size wr w6) := HB2'.out.trans (HX6.out.mono HB2'.out.size)
      have HW6 := Lib.hid (HB2w.out.trans (HX6.out.mono HB2w.out.size))
      clear hb6
      clear t0 t1 t2 t3 t4 t5 t6 tl
      cases v4
      · go_wp2
        go_ret
        exact ⟨false, rfl, fun h => (by cases h), HW6.out⟩
      have HB6 : Hid (Below w1.heap.size w1 w6) := HB.out.trans (HR6.out.mono HB.out.size)
      go_wp2
      go_roundw
      case rel => exact ⟨j + 1, by omega, by go_num, HI2, HB6⟩
      case measure => simp [intOf] <;> omega
    · have HF : Hid (smRu l rs) := Lib.hid ⟨⟨by rw [HNL.out]; omega, by rw [HN.out]; omega⟩, fun r hr => HI.out r (by rwa [List.take_of_length_le (by rw [HN.out]; omega)])⟩
      go_wp2
      go_ret
      exact ⟨true, rfl, fun _ => HF.out, HBw.out⟩
end Go.Proofs.Ytkoojoogddndnaa
