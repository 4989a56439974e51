/-
  Layer 51: how rules come in as arguments.
-/
import Derived.Test.YtledbiabdiijhaaProg
import Derived.Test.YtledbiabdiijhaaLsn
import Derived.Test.YtledbiabdiijhaaTd1
import Derived.Test.YtledbiabdiijhaaLift
import Derived.Test.YtledbiabdiijhaaLst
import Derived.ProofKit
import Derived.OpenShut
import Derived.Deep.DeepHandedRow
import Derived.Lib.SmallJoins
namespace Go.UtYtledbiabdiijhaa
open Go.RowKit
theorem flat_prs {l : List (Int × Int)} {vss : List (List Value)} (hl : vss.length = l.length) (h : ∀ (k : Nat) (a : Int × Int), l[k]? = some a → ∃ cs, vss[k]? = some cs ∧ cs = [.int .i64 a.1, .int .i64 a.2]) : vss.flatten = prs l := by
  induction l generalizing vss with
  | nil =>
    obtain rfl : vss = [] := List.eq_nil_of_length_eq_zero (by simpa using hl)
    rfl
  | cons r l ih =>
    cases vss with
    | nil => simp at hl
    | cons cs vss =>
      obtain ⟨cs', h1, h2⟩ := h 0 r rfl
      simp at h1
      subst h1
      rw [List.flatten_cons, ih (by simpa using hl) (fun k a hk => by simpa using h (k + 1) a (by simpa using hk)), h2]
      simp [prs]
theorem flat_one {vss : List (List Value)} (h : ∀ cs ∈ vss, cs.length = 1) : ∃ vs : List Value, vss.flatten = vs ∧ vs.length = vss.length ∧ ∀ (k : Nat) (v : Value), vss[k]? = some [v] → vs[k]? = some v := by
  induction vss with
  | nil => exact ⟨[], rfl, rfl, fun k v h => by simp at h⟩
  | cons cs vss ih =>
    obtain ⟨vs, h1, h2, h3⟩ := ih (fun c hc => h c (by simp [hc]))
    have hc := h cs (by simp)
    match cs, hc with
    | [a], _ =>
      refine ⟨a :: vs, by simp [h1], by simp [h2], fun k v hk => ?_⟩
      cases k with
      | zero => simpa using hk
      | succ k => simpa using h3 k v (by simpa using hk)
/-- lists of lists of rules -/
def RulesAt2 (w : World) (B : Nat) (A : Option Addr) (l : List (List TR)) : Prop :=
  ∃ vs : List Value, vs.length = l.length ∧ Row w B A vs ∧ ∀ (k : Nat) (s : List TR), l[k]? = some s → ∃ A' c', vs[k]? = some (.slice A' s.length c') ∧ s.length ≤ c' ∧ c' ≤ maxLen ∧ RulesAt w B A' s
theorem RulesAt2.below {w w' : World} {B : Nat} {A : Option Addr} {l : List (List TR)} (h : RulesAt2 w B A l) (hb : Below B w w') : RulesAt2 w' B A l := by
  obtain ⟨vs, h1, h2, h3⟩ := h
  refine ⟨vs, h1, h2.below hb, fun k s hs => ?_⟩
  obtain ⟨A', c', g1, g2, g3, g4⟩ := h3 k s hs
  exact ⟨A', c', g1, g2, g3, g4.below hb⟩
theorem RulesAt2.lt {w : World} {B : Nat} {A : Option Addr} {l : List (List TR)} (h : RulesAt2 w B A l) : RulesAt2 w w.heap.size A l := by
  obtain ⟨vs, h1, h2, h3⟩ := h
  refine ⟨vs, h1, h2.lt, fun k s hs => ?_⟩
  obtain ⟨A', c', g1, g2, g3, g4⟩ := h3 k s hs
  exact ⟨A', c', g1, g2, g3, g4.lt⟩
theorem RulesAt2.at_ {w : World} {B : Nat} {A : Option Addr} {l : List (List TR)} (h : RulesAt2 w B A l) {k : Nat} (hk : k < l.length) : ∃ b o A' c' s, A = some ⟨b, o, none⟩ ∧ b < B ∧ Hid (l[k]? = some s) ∧ w.cell? ⟨b, o + k, none⟩ = some (.slice A' s.length c') ∧ s.length ≤ c' ∧ c' ≤ maxLen ∧ Hid (RulesAt w B A' s) := by
  obtain ⟨vs, h1, h2, h3⟩ := h
  have e : l[k]? = some l[k] := List.getElem?_eq_getElem hk
  obtain ⟨A', c', g1, g2, g3, g4⟩ := h3 k _ e
  obtain ⟨b, o, v, hA, hb, hv, hc⟩ := h2.at_ (k := k) (by omega)
  rw [g1] at hv
  cases hv
  exact ⟨b, o, A', c', l[k], hA, hb, e, hc, g2, g3, g4⟩
end Go.UtYtledbiabdiijhaa
namespace Go.Proofs.Ytledbiabdiijhaa
open Go.ChangeShapes Go.WideShapes Go.ChangeAt Go.RowKit Go.UtYtledbiabdiijhaa Go.Joins
section
variable {H : Type} {enc : TypeId × Value → H} {W : World} {n : Nat} {v : Value} {x : DataW H × List MemPlace}
set_option maxRecDepth 100000 in
theorem open_rgl (h : DataW.trod enc Try.prog W 0 (fun _ => true) true n 36 [v] = some x) :
    ∃ (A : Option Addr) (c : Nat) (l : List Rg), v = .slice A l.length c ∧ l.length ≤ c ∧ c ≤ maxLen ∧ Row W W.heap.size A (prs l) := by
  obtain ⟨A, c, l, vss, rfl, h1, h2, h3, h4, h5, h6⟩ := open_listN (fun cs (r : Rg) => cs = [.int .i64 r.1, .int .i64 r.2]) (sz := 2) (by omega) Try.underlying36 (by kernel_rfl) (fun n cs x hx => by
    obtain ⟨y0, y1, m, -, hl, g0, g1⟩ := trod_struct2 (f0 := ⟨ "Lo", 3, 0, false, "", "", 0⟩) (f1 := ⟨ "Hi", 3, 1, false, "", "", 8⟩) Try.underlying62 hx
    have hc : Try.prog.cellsOf 62 = 2 := by kernel_rfl
    have hi : Try.prog.cellsOf 3 = 1 := by kernel_rfl
    rw [hc] at hl
    match cs, hl with
    | [a, b], _ =>
      simp only [hi, List.drop_zero, List.take_succ_cons, List.take_zero, List.drop_succ_cons] at g0 g1
      obtain ⟨z0, e0, _⟩ := DataW.trod_int Try.underlying3 g0
      obtain ⟨z1, e1, _⟩ := DataW.trod_int Try.underlying3 g1
      exact ⟨(z0, z1), by rw [List.cons.inj e0 |>.1, List.cons.inj e1 |>.1]⟩) h
  exact ⟨A, c, l, rfl, h1, h2, by rw [← flat_prs h3 h6]; exact h5⟩
set_option maxRecDepth 100000 in
theorem open_pcl (h : DataW.trod enc Try.prog W 0 (fun _ => true) true n 32 [v] = some x) :
    ∃ (A : Option Addr) (c : Nat) (l : List (Int × Int)), v = .slice A l.length c ∧ l.length ≤ c ∧ c ≤ maxLen ∧ Row W W.heap.size A (prs l) := by
  obtain ⟨A, c, l, vss, rfl, h1, h2, h3, h4, h5, h6⟩ := open_listN (fun cs (r : Int × Int) => cs = [.int .i64 r.1, .int .i64 r.2]) (sz := 2) (by omega) Try.underlying32 (by kernel_rfl) (fun n cs x hx => by
    obtain ⟨y0, y1, m, -, hl, g0, g1⟩ := trod_struct2 (f0 := ⟨ "Code", 3, 0, false, "", "", 0⟩) (f1 := ⟨ "Copy", 3, 1, false, "", "", 8⟩) Try.underlying51 hx
    have hc : Try.prog.cellsOf 51 = 2 := by kernel_rfl
    have hi : Try.prog.cellsOf 3 = 1 := by kernel_rfl
    rw [hc] at hl
    match cs, hl with
    | [a, b], _ =>
      simp only [hi, List.drop_zero, List.take_succ_cons, List.take_zero, List.drop_succ_cons] at g0 g1
      obtain ⟨z0, e0, _⟩ := DataW.trod_int Try.underlying3 g0
      obtain ⟨z1, e1, _⟩ := DataW.trod_int Try.underlying3 g1
      exact ⟨(z0, z1), by rw [List.cons.inj e0 |>.1, List.cons.inj e1 |>.1]⟩) h
  exact ⟨A, c, l, rfl, h1, h2, by rw [← flat_prs h3 h6]; exact h5⟩
set_option maxRecDepth 100000 in
theorem open_stl (h : DataW.trod enc Try.prog W 0 (fun _ => true) true n 31 [v] = some x) :
    ∃ (A : Option Addr) (c : Nat) (l : List (List Rg)), v = .slice A l.length c ∧ l.length ≤ c ∧ c ≤ maxLen ∧ SetsAt W W.heap.size A l := by
  obtain ⟨A, c, l, vss, rfl, h1, h2, h3, h4, h5, h6⟩ := open_listN (fun cs (s : List Rg) => ∃ A' c', cs = [.slice A' s.length c'] ∧ s.length ≤ c' ∧ c' ≤ maxLen ∧ Row W W.heap.size A' (prs s)) (sz := 1) (by omega) Try.underlying31 (by kernel_rfl) (fun n cs x hx => by
    obtain ⟨y0, m, -, hl, g0⟩ := trod_struct1 (f0 := ⟨ "Ranges", 36, 0, false, "", "", 0⟩) Try.underlying38 hx
    have hc : Try.prog.cellsOf 38 = 1 := by kernel_rfl
    have hi : Try.prog.cellsOf 36 = 1 := by kernel_rfl
    rw [hc] at hl
    match cs, hl with
    | [a], _ =>
      simp only [hi, List.drop_zero, List.take_succ_cons, List.take_zero] at g0
      obtain ⟨A', c', s, rfl, q1, q2, q3⟩ := open_rgl g0
      exact ⟨s, A', c', rfl, q1, q2, q3⟩) h
  obtain ⟨vs, e1, e2, e3⟩ := flat_one h4
  rw [e1] at h5
  refine ⟨A, c, l, rfl, h1, h2, vs, by omega, h5, fun k s hs => ?_⟩
  obtain ⟨cs, g1, A', c', rfl, g2, g3, g4⟩ := h6 k s hs
  exact ⟨A', c', e3 k _ g1, g2, g3, g4⟩
set_option maxRecDepth 100000 in
theorem open_rules (h : DataW.trod enc Try.prog W 0 (fun _ => true) true n 22 [v] = some x) :
    ∃ (A : Option Addr) (c : Nat) (l : List TR), v = .slice A l.length c ∧ l.length ≤ c ∧ c ≤ maxLen ∧ RulesAt W W.heap.size A l := by
  obtain ⟨A, c, l, vss, rfl, h1, h2, h3, h4, h5, h6⟩ := open_listN (fun cs (r : TR) => RuleAt W W.heap.size cs r) (sz := 4) (by omega) Try.underlying22 (by kernel_rfl) (fun n cs x hx => by
    obtain ⟨y0, y1, y2, y3, m, -, hl, g0, g1, g2, g3⟩ := trod_struct4 (f0 := ⟨ "Before", 31, 0, false, "", "", 0⟩) (f1 := ⟨ "Match", 31, 1, false, "", "", 24⟩) (f2 := ⟨ "After", 31, 2, false, "", "", 48⟩) (f3 := ⟨ "Result", 32, 3, false, "", "", 72⟩) Try.underlying34 hx
    have hc : Try.prog.cellsOf 34 = 4 := by kernel_rfl
    have hi : Try.prog.cellsOf 31 = 1 := by kernel_rfl
    have hj : Try.prog.cellsOf 32 = 1 := by kernel_rfl
    rw [hc] at hl
    match cs, hl with
    | [a, b, c, d], _ =>
      simp only [hi, hj, List.drop_zero, List.take_succ_cons, List.take_zero, List.drop_succ_cons] at g0 g1 g2 g3
      obtain ⟨A0, c0, s0, rfl, p0, q0, r0⟩ := open_stl g0
      obtain ⟨A1, c1, s1, rfl, p1, q1, r1⟩ := open_stl g1
      obtain ⟨A2, c2, s2, rfl, p2, q2, r2⟩ := open_stl g2
      obtain ⟨A3, c3, s3, rfl, p3, q3, r3⟩ := open_pcl g3
      exact ⟨⟨s0, s1, s2, s3⟩, A0, c0, A1, c1, A2, c2, A3, c3, rfl, ⟨r0, r1, r2, r3⟩, ⟨p0, q0⟩, ⟨p1, q1⟩, ⟨p2, q2⟩, ⟨p3, q3⟩⟩) h
  exact ⟨A, c, l, rfl, h1, h2, vss, h3, h4, h5, h6⟩
set_option maxRecDepth 100000 in
theorem open_rules2 (h : DataW.trod enc Try.prog W 0 (fun _ => true) true n 39 [v] = some x) :
    ∃ (A : Option Addr) (c : Nat) (l : List (List TR)), v = .slice A l.length c ∧ l.length ≤ c ∧ c ≤ maxLen ∧ RulesAt2 W W.heap.size A l := by
  obtain ⟨A, c, l, vs, h1, h2, h3, h4, h5, h6⟩ := open_list1 (fun v (s : List TR) => ∃ A' c', v = .slice A' s.length c' ∧ s.length ≤ c' ∧ c' ≤ maxLen ∧ RulesAt W W.heap.size A' s) Try.underlying39 (by kernel_rfl) (fun n v x hx => by
    obtain ⟨A', c', s, e1, q1, q2, q3⟩ := open_rules hx
    exact ⟨s, A', c', e1, q1, q2, q3⟩) h
  refine ⟨A, c, l, h1, h2, h3, vs, h4, h5, fun k s hs => ?_⟩
  obtain ⟨v, g1, A', c', g2, g3, g4, g5⟩ := h6 k s hs
  exact ⟨A', c', by rw [g1, g2], g3, g4, g5⟩
end
end Go.Proofs.Ytledbiabdiijhaa
