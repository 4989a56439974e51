/-
  Maps whose keys are pairs of integers and whose elements are integers: what a look-up finds, what an update adds; over whatever program.
  Keys of the trie's map.
-/
import Derived.Test.YtjohoohdjlajcaaBase
import Derived.Maps.Own
import Derived.ChangeMaps5
import Derived.Test.YtjohoohdjlajcaaProg
import Derived.Test.YtjohoohdjlajcaaCs2
import Derived.WalkKit
import Derived.KernelRfl
namespace Go.UtYtjohoohdjlajcaa
open Go.RowKit
def key2 (a b : Int) : Value := .agg #[.int .i64 a, .int .i64 b]
structure K2 (P : Program) (kt : TypeId) : Prop where
  und : ∃ fs, P.underlying kt = some (.struct fs)
  eq : ∀ (w : World) (a b c d : Int), (Op.equal kt (key2 a b) (key2 c d)).run P w = .ok (a == c && b == d) w
  chk : ∀ (w : World) (e : Bool) (a b : Int), (Instr.checkKey e 10000 kt (key2 a b)).run P w = .ok () w
/-- the entries of a map read as m -/
def Ents (es : List MapEntry) (m : List ((Int × Int) × Int)) : Prop := es.map (fun e => (e.key, e.val)) = m.map fun x => (key2 x.1.1 x.1.2, Value.int .i64 x.2)
def lkp (m : List ((Int × Int) × Int)) (a b : Int) : Option Int := (m.find? fun x => a == x.1.1 && b == x.1.2).map (·.2)
def MapAt (w : World) (mb : Nat) (m : List ((Int × Int) × Int)) : Prop := ∃ es clock, w.heap[mb]? = some (.map es clock) ∧ Ents es.toList m
section
variable {P : Program} {w w' : World} {kt t e mb : Nat} {m : List ((Int × Int) × Int)}
theorem MapAt.lt (h : MapAt w mb m) : mb < w.heap.size := by
  obtain ⟨es, clock, h, _⟩ := h
  exact (Array.getElem?_eq_some_iff.1 h).1
theorem MapAt.keep (h : MapAt w mb m) (hk : w'.heap[mb]? = w.heap[mb]?) : MapAt w' mb m := by
  obtain ⟨es, clock, h, h2⟩ := h
  exact ⟨es, clock, hk.trans h, h2⟩
theorem MapAt.new (w : World) : MapAt (w.alloc (.map #[] 0)) w.heap.size [] := ⟨#[], 0, heap_alloc_new w _, rfl⟩
theorem asking_run (K : K2 P kt) (w : World) (a b : Int) : ∀ (es : List MapEntry) (m : List ((Int × Int) × Int)) (i : Nat), Ents es m → ∃ r, (Instr.findAsking kt (key2 a b) es i).run P w = .ok r w ∧ r.map (·.2) = (lkp m a b).map (Value.int .i64)
  | [], m, i, h => by
    cases m with
    | nil => exact ⟨none, rfl, rfl⟩
    | cons x m => cases h
  | e :: es, m, i, h => by
    cases m with
    | nil => cases h
    | cons x m =>
      simp only [Ents, List.map_cons, List.cons.injEq, Prod.mk.injEq] at h
      obtain ⟨⟨h1, h2⟩, h3⟩ := h
      have hq := K.eq w a b x.1.1 x.1.2
      by_cases hc : (a == x.1.1 && b == x.1.2) = true
      · refine ⟨some (i, e.val), ?_, ?_⟩
        · rw [Instr.findAsking, h1]
          simp only [Sem.run_bind, hq, Result.andThen_ok, hc]
          rfl
        · simp [lkp, hc, h2]
      · obtain ⟨r, hr, hr2⟩ := asking_run K w a b es m (i + 1) h3
        refine ⟨r, ?_, ?_⟩
        · rw [Instr.findAsking, h1]
          simp only [Sem.run_bind, hq, Result.andThen_ok, hc]
          exact hr
        · rw [hr2]
          simp only [lkp, List.find?_cons]
          rw [Bool.not_eq_true] at hc
          rw [hc]
theorem findKey_run (K : K2 P kt) (w : World) (a b : Int) {es : List MapEntry} (h : Ents es m) : ∃ r, (Instr.findKey kt (key2 a b) es).run P w = .ok r w ∧ r.map (·.2) = (lkp m a b).map (Value.int .i64) := by
  obtain ⟨fs, hf⟩ := K.und
  unfold Instr.findKey
  simp only [Sem.run_bind, run_underlying hf, Result.andThen_ok]
  cases es with
  | nil =>
    cases m with
    | nil => exact ⟨none, rfl, rfl⟩
    | cons x m => cases h
  | cons e0 es => exact asking_run K w a b _ m 0 h
theorem look_run (K : K2 P kt) (ht : P.underlying t = some (.map kt e)) (hz : (zeroValue e).run P w = .ok (.int .i64 0) w) (h : MapAt w mb m) (a b : Int) :
    (Instr.lookup t (.map (some mb)) (key2 a b) true).run P w = .ok (.tuple #[.int .i64 ((lkp m a b).getD 0), .bool (lkp m a b).isSome]) w := by
  obtain ⟨es, clock, h1, h2⟩ := h
  obtain ⟨r, hr, hr2⟩ := findKey_run K w a b h2
  unfold Instr.lookup
  simp only [Sem.run_bind, run_underlying ht, Result.andThen_ok, MapKept.run_getObj_map h1, Sem.run_pure, K.chk, hr]
  cases hl : lkp m a b with
  | none =>
    rw [hl] at hr2
    cases r with
    | none => simp [hz]
    | some r => cases hr2
  | some v =>
    rw [hl] at hr2
    cases r with
    | none => cases hr2
    | some r =>
      simp only [Option.map_some, Option.some.injEq] at hr2
      simp [hr2]
theorem put_run (K : K2 P kt) (ht : P.underlying t = some (.map kt e)) (h : MapAt w mb m) (a b v : Int) (hl : lkp m a b = none) :
    ∃ w', (Instr.mapUpdate t (.map (some mb)) (key2 a b) (.int .i64 v)).run P w = .ok () w' ∧ MapAt w' mb (m ++ [((a, b), v)]) ∧ w.grownBy w' (some mb) := by
  obtain ⟨es, clock, h1, h2⟩ := h
  obtain ⟨r, hr, hr2⟩ := findKey_run K w a b h2
  rw [hl] at hr2
  cases r with
  | some r => cases hr2
  | none =>
    refine ⟨Go.ChangeMaps.setBlock w mb (.map (es.push { key := key2 a b, val := .int .i64 v, born := clock }) (clock + 1)), ?_, ⟨_, _, Go.ChangeMaps.heap_setBlock_same h1 _, ?_⟩, ⟨rfl, rfl, rfl, by simp [Go.ChangeMaps.setBlock], fun i _ hi => Go.ChangeMaps.heap_setBlock_other h1 _ (fun e => hi (by rw [e]))⟩⟩
    · unfold Instr.mapUpdate
      simp only [Sem.run_bind, run_underlying ht, Result.andThen_ok, MapKept.run_getObj_map h1, K.chk, hr, MapKept.run_setObj_map _ h1]
      rfl
    · unfold Ents at h2 ⊢
      simp [h2, key2]
/-- the update at the operation, for the walk -/
theorem wpList_put (w : World) {ops : Array Oper} {rest : List Oper} {o : Oper} {ac : Act} {Q : Exit → Act → World → Prop} (hg : o.guard = none) (mo x v : Operand) (t : TypeId) (hop : o.op = Op.mapUpdate t mo x v)
    (kt e : TypeId) (K : K2 P kt) (ht : P.underlying t = some (.map kt e)) (mb : Nat) (m : List ((Int × Int) × Int)) (a b val : Int) (hm : ac.eval mo = .map (some mb)) (hx : ac.eval x = .agg #[.int .i64 a, .int .i64 b]) (hv : ac.eval v = .int .i64 val)
    (hM : MapAt w mb m) (hl : lkp m a b = none) (hK : ∀ w', MapAt w' mb (m ++ [((a, b), val)]) → w.grownBy w' (some mb) → wpList P ops Q rest (ac.put o.dst undef) w') : wpList P ops Q (o :: rest) ac w := by
  refine wpList_plain hg fun K' hK' => ?_
  obtain ⟨w', hrun, r1, r2⟩ := put_run K ht hM a b val hl
  unfold key2 at hrun
  unfold Oper.wp
  simp [execOp, hop, hm, hx, hv, hrun, Result.andThen]
  exact hK' _ _ (hK w' r1 r2)
end
end Go.UtYtjohoohdjlajcaa
namespace Go.Proofs.Ytjohoohdjlajcaa
open Go.RowKit Go.UtYtjohoohdjlajcaa
theorem link_held : Try.prog.stoodInHeld 101 = false := by kernel_rfl
theorem link_fields : (Try.prog.fieldsOf 101).toList = [⟨ "node", 3, 0, false, "", "unicodetext/transduce", 0⟩, ⟨ "code", 3, 1, false, "", "unicodetext/transduce", 8⟩] := by kernel_rfl
theorem link_und : Try.prog.underlying 101 = some (.struct #[⟨ "node", 3, 0, false, "", "unicodetext/transduce", 0⟩, ⟨ "code", 3, 1, false, "", "unicodetext/transduce", 8⟩]) := by kernel_rfl
theorem link_eq (w : World) (a b c d : Int) : (Op.equal 101 (key2 a b) (key2 c d)).run Try.prog w = .ok (a == c && b == d) w := by
  unfold Op.equal key2
  rw [show Op.maxDepth = 9999 + 1 by rfl, run_equalIn_agg w _ _ _ _ (by kernel_rfl) link_held, link_fields]
  simp [go_sem]
  by_cases h : a = c <;> by_cases h' : b = d <;> simp [h, h']
theorem chk_int (w : World) (e : Bool) (n : Nat) (a : Int) : (Instr.checkKey e (n + 1) 3 (.int .i64 a)).run Try.prog w = .ok () w := by
  rw [Instr.checkKey]
  simp [Sem.run_bind, run_underlying Try.underlying3]
theorem link_chk (w : World) (e : Bool) (a b : Int) : (Instr.checkKey e 10000 101 (key2 a b)).run Try.prog w = .ok () w := by
  unfold key2
  rw [show (10000 : Nat) = (9998 + 1) + 1 by rfl, Instr.checkKey]
  simp only [Sem.run_bind, run_underlying link_und, Result.andThen_ok]
  simp [go_sem, chk_int]
theorem link_k2 : K2 Try.prog 101 := ⟨⟨_, link_und⟩, link_eq, link_chk⟩
theorem map_zero (w : World) : (zeroValue 3).run Try.prog w = .ok (.int .i64 0) w := by
  simp [go_sem]
end Go.Proofs.Ytjohoohdjlajcaa
