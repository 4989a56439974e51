/-
  Tables, properties and places as arguments.
-/
import Derived.Test.YtkoojoogddndnaaBm0
import Derived.Test.YtkoojoogddndnaaLift
import Derived.Test.YtkoojoogddndnaaLsn
import Derived.Test.YtkoojoogddndnaaLst
import Derived.Deep.Strs
import Derived.Deep.Slices
import Derived.Lib.SmallJoins
import Derived.ChangeSame
import Derived.OpenShut
namespace Go.UtYtkoojoogddndnaa
open Go.RowKit Go.ChangeShapes Go.WideShapes Go.Deep
theorem array2' {α : Type} {cs : Array α} (h : cs.size = 2) : ∃ c0 c1, cs = #[c0, c1] := by
  obtain ⟨l⟩ := cs
  match l, h with
  | [c0, c1], _ => exact ⟨c0, c1, rfl⟩
theorem array3' {α : Type} {cs : Array α} (h : cs.size = 3) : ∃ c0 c1 c2, cs = #[c0, c1, c2] := by
  obtain ⟨l⟩ := cs
  match l, h with
  | [c0, c1, c2], _ => exact ⟨c0, c1, c2, rfl⟩
theorem array6' {α : Type} {cs : Array α} (h : cs.size = 6) : ∃ c0 c1 c2 c3 c4 c5, cs = #[c0, c1, c2, c3, c4, c5] := by
  obtain ⟨l⟩ := cs
  match l, h with
  | [c0, c1, c2, c3, c4, c5], _ => exact ⟨c0, c1, c2, c3, c4, c5, rfl⟩
section
variable {H : Type} {enc : TypeId × Value → H} {P : Program}
/-- a slice of strings -/
theorem open_strl {w : World} {base : Nat} {t e : TypeId} {fuel : Nat} {v : Value} {x : DataW H × List MemPlace} (ht : P.underlying t = some (.slice e)) (he : P.underlying e = some .string) (hc : P.cellsOf e = 1)
    (h : DataW.trod enc P w base (fun _ => true) true fuel t [v] = some x) :
    ∃ (A : Option Addr) (c : Nat) (l : List Nm), v = .slice A l.length c ∧ l.length ≤ c ∧ c ≤ maxLen ∧ StrsAt w w.heap.size A l := by
  obtain ⟨A, c, xs, vs, h1, h2, h3, h4, h5, h6⟩ := open_list1 (fun v (s : Nm) => v = .string ⟨s.toArray⟩ ∧ s.length ≤ maxLen) ht hc
    (fun n v x hx => by
      obtain ⟨s, h1, h2, h3⟩ := DataW.trod_string he hx
      refine ⟨s.data.toList, ?_, ?_⟩
      · have := (List.cons.inj h1).1
        rw [this]
      · simpa using h3) h
  have e : vs = strs xs := by
    apply List.ext_getElem?
    intro k
    by_cases hk : k < xs.length
    · obtain ⟨v, g1, g2, g3⟩ := h6 k xs[k] (List.getElem?_eq_getElem hk)
      rw [g1, g2, strs, List.getElem?_map, List.getElem?_eq_getElem hk]
      rfl
    · rw [List.getElem?_eq_none (by omega), List.getElem?_eq_none (by rw [strs_len]; omega)]
  refine ⟨A, c, xs, h1, h2, h3, e ▸ h5, fun s hs => ?_⟩
  obtain ⟨k, hk, e'⟩ := List.getElem_of_mem hs
  obtain ⟨v, g1, g2, g3⟩ := h6 k s (e' ▸ List.getElem?_eq_getElem hk)
  exact g3
end
end Go.UtYtkoojoogddndnaa
namespace Go.Proofs.Ytkoojoogddndnaa
open Go.RowKit Go.ChangeShapes Go.WideShapes Go.Deep Go.Joins Go.UtYtkoojoogddndnaa
theorem cel_sl : Try.prog.cellsOf 22 = 1 := by kernel_rfl
theorem cel_si : Try.prog.cellsOf 23 = 1 := by kernel_rfl
theorem cel_sr : Try.prog.cellsOf 24 = 1 := by kernel_rfl
theorem cel_i : Try.prog.cellsOf 3 = 1 := by kernel_rfl
theorem cel_s : Try.prog.cellsOf 9 = 1 := by kernel_rfl
theorem cel_a : Try.prog.cellsOf 26 = 2 := by kernel_rfl
theorem cel_t : Try.prog.cellsOf 28 = 6 := by kernel_rfl
theorem cel_p : Try.prog.cellsOf 41 = 2 := by kernel_rfl
theorem cel_sp : Try.prog.cellsOf 66 = 3 := by kernel_rfl
theorem cel_ssp : Try.prog.cellsOf 39 = 1 := by kernel_rfl
section
variable {H : Type} {enc : TypeId × Value → H} {W : World} {n : Nat} {x : DataW H × List MemPlace}
set_option maxRecDepth 100000 in
theorem open_aut {cs : List Value} (h : DataW.trod enc Try.prog W 0 (fun _ => true) true n 26 cs = some x) :
    ∃ (A A' : Option Addr) (c c' : Nat) (nx mk : List (List Int)), cs = [.slice A nx.length c, .slice A' mk.length c'] ∧ AutAt W W.heap.size A c A' c' nx mk := by
  obtain ⟨y0, y1, m, -, hl, g0, g1⟩ := trod_struct2 (f0 := ⟨ "Next", 24, 0, false, "", "", 0⟩) (f1 := ⟨ "Marks", 24, 1, false, "", "", 24⟩) Try.underlying26 h
  rw [cel_a] at hl
  match cs, hl with
  | [a, b], _ =>
    simp only [cel_sr, List.drop_zero, List.take_succ_cons, List.take_zero, List.drop_succ_cons] at g0 g1
    obtain ⟨A, c, nx, rfl, p1, p2, p3⟩ := open_rows2 Try.underlying24 cel_si Try.underlying23 Try.underlying3 cel_i g0
    obtain ⟨A', c', mk, rfl, r1, r2, r3⟩ := open_rows2 Try.underlying24 cel_si Try.underlying23 Try.underlying3 cel_i g1
    exact ⟨A, A', c, c', nx, mk, rfl, ⟨p3, p1, p2⟩, r3, r1, r2⟩
set_option maxRecDepth 100000 in
theorem open_tab {cs : List Value} (h : DataW.trod enc Try.prog W 0 (fun _ => true) true n 28 cs = some x) :
    ∃ (y : TA) (t : BT), cs = (y.cs t).toList ∧ TabAt W W.heap.size y t := by
  obtain ⟨y0, y1, y2, y3, m, -, hl, g0, g1, g2, g3⟩ := trod_struct4 (f0 := ⟨ "Classes", 22, 0, false, "", "", 0⟩) (f1 := ⟨ "Actions", 23, 1, false, "", "", 24⟩) (f2 := ⟨ "Left", 26, 2, false, "", "", 48⟩) (f3 := ⟨ "Right", 26, 4, false, "", "", 96⟩) Try.underlying28 h
  rw [cel_t] at hl
  match cs, hl with
  | [a, b, c, d, e, f], _ =>
    simp only [cel_sl, cel_si, cel_a, List.drop_zero, List.take_succ_cons, List.take_zero, List.drop_succ_cons] at g0 g1 g2 g3
    obtain ⟨A0, c0, l0, rfl, p0, q0, r0⟩ := open_strl Try.underlying22 Try.underlying9 cel_s g0
    obtain ⟨A1, c1, l1, rfl, p1, q1, r1, _⟩ := open_row Try.underlying23 Try.underlying3 cel_i g1
    obtain ⟨A2, A3, c2, c3, nx, mk, e2, r2⟩ := open_aut g2
    obtain ⟨A4, A5, c4, c5, nx', mk', e4, r4⟩ := open_aut g3
    injection e2 with e2 e3
    injection e3 with e3 _
    injection e4 with e4 e5
    injection e5 with e5 _
    subst e2 e3 e4 e5
    exact ⟨⟨A0, A1, A2, A3, A4, A5, c0, c1, c2, c3, c4, c5⟩, ⟨l0, l1, nx, mk, nx', mk'⟩, rfl, ⟨r0, p0, q0⟩, ⟨r1, p1, q1⟩, r2, r4⟩
set_option maxRecDepth 100000 in
theorem open_table {v : Value} {d : DataW H} {p : List MemPlace} {base : Nat} (hv : Value.okWide Try.prog W .any base 28 v) (h : DataW.Trod enc Try.prog W 0 (fun _ => true) true 28 v d p) :
    ∃ (y : TA) (t : BT), v = y.val t ∧ TabAt W W.heap.size y t := by
  obtain ⟨cs, rfl, hsz⟩ := okWide_struct Try.underlying28 hv
  rw [cel_t] at hsz
  obtain ⟨c0, c1, c2, c3, c4, c5, rfl⟩ := array6' hsz
  obtain ⟨fuel, hf⟩ := h
  obtain ⟨y, t, e, ht⟩ := open_tab hf
  refine ⟨y, t, ?_, ht⟩
  simp [Value.cells, TA.cs] at e
  obtain ⟨rfl, rfl, rfl, rfl, rfl, rfl⟩ := e
  rfl
set_option maxRecDepth 100000 in
theorem open_spans {v : Value} (h : DataW.trod enc Try.prog W 0 (fun _ => true) true n 39 [v] = some x) :
    ∃ (A : Option Addr) (c : Nat) (l : List (Int × Int × Int)), v = .slice A l.length c ∧ l.length ≤ c ∧ c ≤ maxLen ∧ Row W W.heap.size A (spn l) := by
  obtain ⟨A, c, l, vss, rfl, h1, h2, h3, h4, h5, h6⟩ := open_listN (fun cs (r : Int × Int × Int) => cs = [.int .i64 r.1, .int .i64 r.2.1, .int .i64 r.2.2]) (sz := 3) (by omega) Try.underlying39 cel_sp (fun n cs x hx => by
    obtain ⟨y0, y1, y2, m, -, hl, g0, g1, g2⟩ := trod_struct3 (f0 := ⟨ "Lo", 3, 0, false, "", "", 0⟩) (f1 := ⟨ "Hi", 3, 1, false, "", "", 8⟩) (f2 := ⟨ "Value", 3, 2, false, "", "", 16⟩) Try.underlying66 hx
    rw [cel_sp] at hl
    match cs, hl with
    | [a, b, c], _ =>
      simp only [cel_i, List.drop_zero, List.take_succ_cons, List.take_zero, List.drop_succ_cons] at g0 g1 g2
      obtain ⟨z0, e0, _⟩ := DataW.trod_int Try.underlying3 g0
      obtain ⟨z1, e1, _⟩ := DataW.trod_int Try.underlying3 g1
      obtain ⟨z2, e2, _⟩ := DataW.trod_int Try.underlying3 g2
      exact ⟨(z0, z1, z2), by rw [List.cons.inj e0 |>.1, List.cons.inj e1 |>.1, List.cons.inj e2 |>.1]⟩) h
  refine ⟨A, c, l, rfl, h1, h2, ?_⟩
  have e : vss = l.map fun s => [.int .i64 s.1, .int .i64 s.2.1, .int .i64 s.2.2] := by
    apply List.ext_getElem?
    intro k
    by_cases hk : k < l.length
    · obtain ⟨cs, g1, g2⟩ := h6 k l[k] (List.getElem?_eq_getElem hk)
      rw [g1, g2, List.getElem?_map, List.getElem?_eq_getElem hk]
      rfl
    · rw [List.getElem?_eq_none (by omega), List.getElem?_eq_none (by simp; omega)]
  rw [spn, List.flatMap_def, ← e]
  exact h5
set_option maxRecDepth 100000 in
theorem open_prop {v : Value} {d : DataW H} {p : List MemPlace} {base : Nat} (hv : Value.okWide Try.prog W .any base 41 v) (h : DataW.Trod enc Try.prog W 0 (fun _ => true) true 41 v d p) :
    ∃ (y : PA) (q : PR), v = y.val q ∧ PrAt W W.heap.size y q := by
  obtain ⟨cs, rfl, hsz⟩ := okWide_struct Try.underlying41 hv
  rw [cel_p] at hsz
  obtain ⟨c0, c1, rfl⟩ := array2' hsz
  obtain ⟨fuel, hf⟩ := h
  obtain ⟨y0, y1, m, -, hl, g0, g1⟩ := trod_struct2 (f0 := ⟨ "Names", 22, 0, false, "", "", 0⟩) (f1 := ⟨ "Spans", 39, 1, false, "", "", 24⟩) Try.underlying41 hf
  simp only [Value.cells, cel_sl, cel_ssp, List.drop_zero, List.take_succ_cons, List.take_zero, List.drop_succ_cons] at g0 g1
  obtain ⟨A0, k0, l0, rfl, p0, q0, r0⟩ := open_strl Try.underlying22 Try.underlying9 cel_s g0
  obtain ⟨A1, k1, l1, rfl, p1, q1, r1⟩ := open_spans g1
  exact ⟨⟨A0, A1, k0, k1⟩, ⟨l0, l1⟩, rfl, ⟨r0, p0, q0⟩, r1, p1, q1⟩
set_option maxRecDepth 100000 in
theorem open_place {v : Value} {d : DataW H} {p : List MemPlace} {base : Nat} (hv : Value.okWide Try.prog W .any base 43 v) (h : DataW.Trod enc Try.prog W 0 (fun _ => true) true 43 v d p) :
    ∃ (A : Option Addr) (c : Nat) (l : List Int) (a : Int), v = .agg #[.slice A l.length c, .int .i64 a] ∧ l.length ≤ c ∧ c ≤ maxLen ∧ Row W W.heap.size A (ints l) ∧ (∀ n ∈ l, (Lit.int .i64 n).wf = true) ∧ (Lit.int .i64 a).wf = true := by
  obtain ⟨cs, rfl, hsz⟩ := okWide_struct Try.underlying43 hv
  have hc : Try.prog.cellsOf 43 = 2 := by kernel_rfl
  rw [hc] at hsz
  obtain ⟨c0, c1, rfl⟩ := array2' hsz
  obtain ⟨fuel, hf⟩ := h
  obtain ⟨y0, y1, m, -, hl, g0, g1⟩ := trod_struct2 (f0 := ⟨ "Text", 23, 0, false, "", "", 0⟩) (f1 := ⟨ "At", 3, 1, false, "", "", 24⟩) Try.underlying43 hf
  simp only [Value.cells, cel_si, cel_i, List.drop_zero, List.take_succ_cons, List.take_zero, List.drop_succ_cons] at g0 g1
  obtain ⟨A0, k0, l0, rfl, p0, q0, r0, s0⟩ := open_row Try.underlying23 Try.underlying3 cel_i g0
  obtain ⟨z1, e1, _, f1⟩ := DataW.trod_int Try.underlying3 g1
  injection e1 with e1 _
  subst e1
  exact ⟨A0, k0, l0, z1, rfl, p0, q0, r0, s0, f1⟩
end
end Go.Proofs.Ytkoojoogddndnaa
