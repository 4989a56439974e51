/-
  Maps whose keys are strings: what a look-up finds, what an update adds; over whatever program.
-/
import Derived.Test.YtkpblieanejmeaaBm0
import Derived.Maps.Own
import Derived.ChangeMaps5
namespace Go.UtYtkpblieanejmeaa
open Go.RowKit
def EntsS (es : List MapEntry) (m : List (Nm × Value)) : Prop := es.map (fun e => (e.key, e.val)) = m.map fun x => (strV x.1, x.2)
def lkpS (m : List (Nm × Value)) (s : Nm) : Option Value := (m.find? fun x => decide (s = x.1)).map (·.2)
def MapS (w : World) (mb : Nat) (m : List (Nm × Value)) : Prop := ∃ es clock, w.heap[mb]? = some (.map es clock) ∧ EntsS es.toList m
section
variable {P : Program} {w w' : World} {kt t e mb : Nat} {m : List (Nm × Value)}
theorem MapS.lt (h : MapS w mb m) : mb < w.heap.size := by
  obtain ⟨es, clock, h, _⟩ := h
  exact (Array.getElem?_eq_some_iff.1 h).1
theorem MapS.keep (h : MapS w mb m) (hk : w'.heap[mb]? = w.heap[mb]?) : MapS w' mb m := by
  obtain ⟨es, clock, h, h2⟩ := h
  exact ⟨es, clock, hk.trans h, h2⟩
theorem MapS.below {B : Nat} (h : MapS w mb m) (hb : Below B w w') (hB : mb < B) : MapS w' mb m := h.keep (hb.block mb hB)
theorem MapS.new (w : World) : MapS (w.alloc (.map #[] 0)) w.heap.size [] := ⟨#[], 0, heap_alloc_new w _, rfl⟩
theorem findNow_s (s : Nm) : ∀ (es : List MapEntry) (m : List (Nm × Value)) (i : Nat), EntsS es m → ∃ r, Instr.findNow .string (strV s) es i = some r ∧ r.map (·.2) = lkpS m s
  | [], m, i, h => by
    cases m with
    | nil => exact ⟨none, rfl, rfl⟩
    | cons x m => cases h
  | e :: es, m, i, h => by
    cases m with
    | nil => cases h
    | cons x m =>
      simp only [EntsS, List.map_cons, List.cons.injEq, Prod.mk.injEq] at h
      obtain ⟨⟨h1, h2⟩, h3⟩ := h
      have hq : Instr.sameNow .string (strV s) e.key = some (decide (s = x.1)) := by
        rw [h1]
        unfold strV Instr.sameNow
        exact congrArg some (bytes_eq s x.1)
      by_cases hc : s = x.1
      · refine ⟨some (i, e.val), ?_, ?_⟩
        · rw [Instr.findNow, hq, decide_eq_true hc]
        · simp [lkpS, hc, h2]
      · obtain ⟨r, hr, hr2⟩ := findNow_s s es m (i + 1) h3
        refine ⟨r, ?_, ?_⟩
        · rw [Instr.findNow, hq, decide_eq_false hc]
          exact hr
        · rw [hr2]
          simp only [lkpS, List.find?_cons]
          rw [decide_eq_false hc]
theorem findKey_s (hk : P.underlying kt = some .string) (w : World) (s : Nm) {es : List MapEntry} (h : EntsS es m) : ∃ r, (Instr.findKey kt (strV s) es).run P w = .ok r w ∧ r.map (·.2) = lkpS m s := by
  obtain ⟨r, h1, h2⟩ := findNow_s s es m 0 h
  refine ⟨r, ?_, h2⟩
  unfold Instr.findKey
  simp only [Sem.run_bind, run_underlying hk, Result.andThen_ok, h1]
  rfl
theorem chk_s (hk : P.underlying kt = some .string) (w : World) (b : Bool) (s : Nm) : (Instr.checkKey b 10000 kt (strV s)).run P w = .ok () w := by
  rw [show (10000 : Nat) = 9999 + 1 by rfl, Instr.checkKey]
  simp only [Sem.run_bind, run_underlying hk, Result.andThen_ok]
  rfl
theorem look_s (hk : P.underlying kt = some .string) (ht : P.underlying t = some (.map kt e)) {z : Value} (hz : (zeroValue e).run P w = .ok z w) (h : MapS w mb m) (s : Nm) :
    (Instr.lookup t (.map (some mb)) (.string ⟨s.toArray⟩) false).run P w = .ok ((lkpS m s).getD z) w := by
  obtain ⟨es, clock, h1, h2⟩ := h
  obtain ⟨r, hr, hr2⟩ := findKey_s hk w s h2
  have hc := chk_s hk w es.isEmpty s
  unfold strV at hr hc
  unfold Instr.lookup
  simp only [Sem.run_bind, run_underlying ht, Result.andThen_ok, MapKept.run_getObj_map h1, Sem.run_pure, hc, hr]
  cases hl : lkpS m s with
  | none =>
    rw [hl] at hr2
    cases r with
    | none => simp [hz]
    | some r => cases hr2
  | some v =>
    rw [hl] at hr2
    cases r with
    | none => cases hr2
    | some r =>
      simp only [Option.map_some, Option.some.injEq] at hr2
      simp [hr2]
theorem look_s2 (hk : P.underlying kt = some .string) (ht : P.underlying t = some (.map kt e)) {z : Value} (hz : (zeroValue e).run P w = .ok z w) (h : MapS w mb m) (s : Nm) :
    (Instr.lookup t (.map (some mb)) (.string ⟨s.toArray⟩) true).run P w = .ok (.tuple #[(lkpS m s).getD z, .bool (lkpS m s).isSome]) w := by
  obtain ⟨es, clock, h1, h2⟩ := h
  obtain ⟨r, hr, hr2⟩ := findKey_s hk w s h2
  have hc := chk_s hk w es.isEmpty s
  unfold strV at hr hc
  unfold Instr.lookup
  simp only [Sem.run_bind, run_underlying ht, Result.andThen_ok, MapKept.run_getObj_map h1, Sem.run_pure, hc, hr]
  cases hl : lkpS m s with
  | none =>
    rw [hl] at hr2
    cases r with
    | none => simp [hz]
    | some r => cases hr2
  | some v =>
    rw [hl] at hr2
    cases r with
    | none => cases hr2
    | some r =>
      simp only [Option.map_some, Option.some.injEq] at hr2
      simp [hr2]
theorem put_s (hk : P.underlying kt = some .string) (ht : P.underlying t = some (.map kt e)) (h : MapS w mb m) (s : Nm) (v : Value) (hl : lkpS m s = none) :
    ∃ w', (Instr.mapUpdate t (.map (some mb)) (strV s) v).run P w = .ok () w' ∧ MapS w' mb (m ++ [(s, v)]) ∧ w.grownBy w' (some mb) := by
  obtain ⟨es, clock, h1, h2⟩ := h
  obtain ⟨r, hr, hr2⟩ := findKey_s hk w s h2
  have hc := chk_s hk w false s
  rw [hl] at hr2
  cases r with
  | some r => cases hr2
  | none =>
    refine ⟨Go.ChangeMaps.setBlock w mb (.map (es.push { key := strV s, val := v, born := clock }) (clock + 1)), ?_, ⟨_, _, Go.ChangeMaps.heap_setBlock_same h1 _, ?_⟩, ⟨rfl, rfl, rfl, by simp [Go.ChangeMaps.setBlock], fun i _ hi => Go.ChangeMaps.heap_setBlock_other h1 _ (fun e => hi (by rw [e]))⟩⟩
    · unfold Instr.mapUpdate
      simp only [Sem.run_bind, run_underlying ht, Result.andThen_ok, MapKept.run_getObj_map h1, chk_s hk, hr, MapKept.run_setObj_map _ h1]
      rfl
    · unfold EntsS at h2 ⊢
      simp [h2, strV]
/-- the update at the operation, for the walk -/
theorem wpList_putS (w : World) {ops : Array Oper} {rest : List Oper} {o : Oper} {ac : Act} {Q : Exit → Act → World → Prop} (hg : o.guard = none) (mo x v : Operand) (t : TypeId) (hop : o.op = Op.mapUpdate t mo x v)
    (kt e : TypeId) (hk : P.underlying kt = some .string) (ht : P.underlying t = some (.map kt e)) (mb : Nat) (m : List (Nm × Value)) (s : Nm) (val : Value) (hm : ac.eval mo = .map (some mb)) (hx : ac.eval x = .string ⟨s.toArray⟩) (hv : ac.eval v = val)
    (hM : MapS w mb m) (hl : lkpS m s = none) (hK : ∀ w', MapS w' mb (m ++ [(s, val)]) → w.grownBy w' (some mb) → wpList P ops Q rest (ac.put o.dst undef) w') : wpList P ops Q (o :: rest) ac w := by
  refine wpList_plain hg fun K' hK' => ?_
  obtain ⟨w', hrun, r1, r2⟩ := put_s hk ht hM s val hl
  unfold strV at hrun
  unfold Oper.wp
  simp [execOp, hop, hm, hx, hv, hrun, Result.andThen]
  exact hK' _ _ (hK w' r1 r2)
end
end Go.UtYtkpblieanejmeaa
