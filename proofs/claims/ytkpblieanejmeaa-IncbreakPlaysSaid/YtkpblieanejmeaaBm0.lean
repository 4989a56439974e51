/-
  Tables and properties in memory: rows of strings, automata, tables.
-/
import Derived.Test.YtkpblieanejmeaaBase
import Derived.MapKept
import Derived.Test.YtkpblieanejmeaaProg
import Derived.Test.YtkpblieanejmeaaTree
import Derived.Test.YtkpblieanejmeaaApp
import Derived.WalkKit
import Derived.Deep.QuietTactic
import Derived.BigQuiet
import Derived.KernelRfl
import Derived.Outline
import Derived.IntWalk
import Derived.Laws.OwnMore
import Derived.Laws.Rows
import Derived.Laws.Cover1
import Derived.Laws.StructEq
import Derived.Deep.DeepCutAuto
import Derived.Deep.CutBlock
import Derived.Test.YtkpblieanejmeaaOwn
import Derived.Test.YtkpblieanejmeaaLst
import Derived.Test.YtkpblieanejmeaaBk0
namespace Go.UtYtkpblieanejmeaa
open Go.RowKit
def strV (s : Nm) : Value := .string ⟨s.toArray⟩
def strs (l : List Nm) : List Value := l.map strV
theorem strs_len (l : List Nm) : (strs l).length = l.length := by simp [strs]
theorem strs_one (l : List Nm) : ∀ u ∈ strs l, u.oneCell' = true := by
  intro u hu
  obtain ⟨s, _, rfl⟩ := List.mem_map.1 hu
  rfl
/-- the three numbers of spans -/
def spn (l : List (Int × Int × Int)) : List Value := l.flatMap fun s => [.int .i64 s.1, .int .i64 s.2.1, .int .i64 s.2.2]
theorem spn_len : ∀ l : List (Int × Int × Int), (spn l).length = l.length * 3
  | [] => rfl
  | s :: l => by
    have := spn_len l
    simp [spn] at this ⊢
    omega
theorem spn_get : ∀ (l : List (Int × Int × Int)) (k : Nat) (s : Int × Int × Int), l[k]? = some s → (spn l)[k * 3]? = some (.int .i64 s.1) ∧ (spn l)[k * 3 + 1]? = some (.int .i64 s.2.1) ∧ (spn l)[k * 3 + 2]? = some (.int .i64 s.2.2)
  | [], k, s, h => by simp at h
  | x :: l, 0, s, h => by
    simp at h
    subst h
    simp [spn]
  | x :: l, k + 1, s, h => by
    have := spn_get l k s (by simpa using h)
    rw [show (k + 1) * 3 = k * 3 + 3 by omega, show k * 3 + 3 + 1 = k * 3 + 1 + 3 by omega, show k * 3 + 3 + 2 = k * 3 + 2 + 3 by omega]
    simpa [spn] using this
/-- where the parts of a table lie -/
structure TA where
  c : Option Addr
  a : Option Addr
  ln : Option Addr
  lm : Option Addr
  rn : Option Addr
  rm : Option Addr
  cc : Nat
  ca : Nat
  cln : Nat
  clm : Nat
  crn : Nat
  crm : Nat
/-- a row of strings -/
def StrsAt (w : World) (B : Nat) (A : Option Addr) (l : List Nm) : Prop := Row w B A (strs l) ∧ ∀ s ∈ l, s.length ≤ maxLen
/-- an automaton in memory -/
def AutAt (w : World) (B : Nat) (A : Option Addr) (c : Nat) (A' : Option Addr) (c' : Nat) (nx mk : List (List Int)) : Prop := (Rows2 w B A nx ∧ nx.length ≤ c ∧ c ≤ maxLen) ∧ Rows2 w B A' mk ∧ mk.length ≤ c' ∧ c' ≤ maxLen
def TabAt (w : World) (B : Nat) (x : TA) (t : BT) : Prop :=
  (StrsAt w B x.c t.cls ∧ t.cls.length ≤ x.cc ∧ x.cc ≤ maxLen) ∧ (Row w B x.a (ints t.act) ∧ t.act.length ≤ x.ca ∧ x.ca ≤ maxLen) ∧ AutAt w B x.ln x.cln x.lm x.clm t.ln t.lm ∧ AutAt w B x.rn x.crn x.rm x.crm t.rn t.rm
def TA.val (x : TA) (t : BT) : Value := .agg #[.slice x.c t.cls.length x.cc, .slice x.a t.act.length x.ca, .slice x.ln t.ln.length x.cln, .slice x.lm t.lm.length x.clm, .slice x.rn t.rn.length x.crn, .slice x.rm t.rm.length x.crm]
/-- where the parts of a property lie -/
structure PA where
  n : Option Addr
  s : Option Addr
  cn : Nat
  cs : Nat
def PrAt (w : World) (B : Nat) (x : PA) (p : PR) : Prop := (StrsAt w B x.n p.names ∧ p.names.length ≤ x.cn ∧ x.cn ≤ maxLen) ∧ Row w B x.s (spn p.spans) ∧ p.spans.length ≤ x.cs ∧ x.cs ≤ maxLen
def PA.val (x : PA) (p : PR) : Value := .agg #[.slice x.n p.names.length x.cn, .slice x.s p.spans.length x.cs]
section
variable {w w' : World} {B B' : Nat}
theorem Rows2.more {A : Option Addr} {xss : List (List Int)} (h : Rows2 w B A xss) (hB : B ≤ B') : Rows2 w B' A xss := by
  obtain ⟨vs, h1, h2, h3⟩ := h
  refine ⟨vs, h1, h2.more hB, fun k xs hk => ?_⟩
  obtain ⟨A', c', g1, g2, g3, g4⟩ := h3 k xs hk
  exact ⟨A', c', g1, g2, g3, g4.more hB⟩
theorem StrsAt.below {A : Option Addr} {l : List Nm} (h : StrsAt w B A l) (hb : Below B w w') : StrsAt w' B A l := ⟨h.1.below hb, h.2⟩
theorem StrsAt.more {A : Option Addr} {l : List Nm} (h : StrsAt w B A l) (hB : B ≤ B') : StrsAt w B' A l := ⟨h.1.more hB, h.2⟩
theorem StrsAt.lt {A : Option Addr} {l : List Nm} (h : StrsAt w B A l) : StrsAt w w.heap.size A l := ⟨h.1.lt, h.2⟩
theorem AutAt.below {A A' : Option Addr} {c c' : Nat} {nx mk : List (List Int)} (h : AutAt w B A c A' c' nx mk) (hb : Below B w w') : AutAt w' B A c A' c' nx mk := ⟨⟨h.1.1.below hb, h.1.2⟩, h.2.1.below hb, h.2.2⟩
theorem AutAt.more {A A' : Option Addr} {c c' : Nat} {nx mk : List (List Int)} (h : AutAt w B A c A' c' nx mk) (hB : B ≤ B') : AutAt w B' A c A' c' nx mk := ⟨⟨h.1.1.more hB, h.1.2⟩, h.2.1.more hB, h.2.2⟩
theorem AutAt.lt {A A' : Option Addr} {c c' : Nat} {nx mk : List (List Int)} (h : AutAt w B A c A' c' nx mk) : AutAt w w.heap.size A c A' c' nx mk := ⟨⟨h.1.1.lt, h.1.2⟩, h.2.1.lt, h.2.2⟩
theorem TabAt.below {x : TA} {t : BT} (h : TabAt w B x t) (hb : Below B w w') : TabAt w' B x t := ⟨⟨h.1.1.below hb, h.1.2⟩, ⟨h.2.1.1.below hb, h.2.1.2⟩, h.2.2.1.below hb, h.2.2.2.below hb⟩
theorem TabAt.more {x : TA} {t : BT} (h : TabAt w B x t) (hB : B ≤ B') : TabAt w B' x t := ⟨⟨h.1.1.more hB, h.1.2⟩, ⟨h.2.1.1.more hB, h.2.1.2⟩, h.2.2.1.more hB, h.2.2.2.more hB⟩
theorem TabAt.lt {x : TA} {t : BT} (h : TabAt w B x t) : TabAt w w.heap.size x t := ⟨⟨h.1.1.lt, h.1.2⟩, ⟨h.2.1.1.lt, h.2.1.2⟩, h.2.2.1.lt, h.2.2.2.lt⟩
theorem PrAt.below {x : PA} {p : PR} (h : PrAt w B x p) (hb : Below B w w') : PrAt w' B x p := ⟨⟨h.1.1.below hb, h.1.2⟩, h.2.1.below hb, h.2.2⟩
theorem PrAt.more {x : PA} {p : PR} (h : PrAt w B x p) (hB : B ≤ B') : PrAt w B' x p := ⟨⟨h.1.1.more hB, h.1.2⟩, h.2.1.more hB, h.2.2⟩
theorem PrAt.lt {x : PA} {p : PR} (h : PrAt w B x p) : PrAt w w.heap.size x p := ⟨⟨h.1.1.lt, h.1.2⟩, h.2.1.lt, h.2.2⟩
theorem Row.at_str {A : Option Addr} {l : List Nm} (h : Row w B A (strs l)) {k : Nat} (hk : k < l.length) : ∃ b o s, A = some ⟨b, o, none⟩ ∧ b < B ∧ Hid (l[k]? = some s) ∧ w.cell? ⟨b, o + k, none⟩ = some (.string ⟨s.toArray⟩) := by
  obtain ⟨b, o, v, e, hb, hv, hc⟩ := h.at_ (k := k) (by rw [strs_len]; exact hk)
  refine ⟨b, o, l[k], e, hb, List.getElem?_eq_getElem hk, ?_⟩
  simp only [strs, List.getElem?_map, List.getElem?_eq_getElem hk, Option.map_some, Option.some.injEq] at hv
  rw [hc, ← hv]
  rfl
theorem Row.at_spn {A : Option Addr} {l : List (Int × Int × Int)} (h : Row w B A (spn l)) {k : Nat} (hk : k < l.length) : ∃ b o x y z, A = some ⟨b, o, none⟩ ∧ b < B ∧ Hid (l[k]? = some (x, y, z)) ∧ w.cell? ⟨b, o + k * 3, none⟩ = some (.int .i64 x) ∧ w.cell? ⟨b, o + k * 3 + 1, none⟩ = some (.int .i64 y) ∧ w.cell? ⟨b, o + k * 3 + 2, none⟩ = some (.int .i64 z) := by
  obtain ⟨b, o, e, hb, hc⟩ := h (fun e => by have := spn_len l; rw [e] at this; simp at this; omega)
  have hg := List.getElem?_eq_getElem hk
  obtain ⟨g1, g2, g3⟩ := spn_get l k l[k] hg
  exact ⟨b, o, l[k].1, l[k].2.1, l[k].2.2, e, hb, hg, hc _ _ g1, by rw [Nat.add_assoc]; exact hc _ _ g2, by rw [Nat.add_assoc]; exact hc _ _ g3⟩
end
theorem bool_iff {v v' : Bool} (h : v = true ↔ v' = true) : v = v' := Bool.eq_iff_iff.2 h
theorem bool_neg {v : Bool} {p : Prop} (hv : v = true ↔ p) (h : ¬ p) : v = false := Bool.eq_false_iff.2 (fun e => h (hv.1 e))
/-- the six cells of a table, the two of an automaton, of a property -/
def TA.cs (x : TA) (t : BT) : Array Value := #[.slice x.c t.cls.length x.cc, .slice x.a t.act.length x.ca, .slice x.ln t.ln.length x.cln, .slice x.lm t.lm.length x.clm, .slice x.rn t.rn.length x.crn, .slice x.rm t.rm.length x.crm]
theorem boxT (w : World) (T : TypeId) (x : TA) (t : BT) : ∃ u, u = w.alloc (.cells #[.slice x.c t.cls.length x.cc, .slice x.a t.act.length x.ca, .slice x.ln t.ln.length x.cln, .slice x.lm t.lm.length x.clm, .slice x.rn t.rn.length x.crn, .slice x.rm t.rm.length x.crm] T) ∧ Hid (Below w.heap.size w u) ∧ Hid (Blk u w.heap.size T (x.cs t)) := ⟨_, rfl, (Below.refl _ _).alloc (Nat.le_refl _) _, Blk.new _ _ _⟩
theorem tab6 {w : World} {g T : Nat} {x : TA} {t : BT} (h : Blk w g T (x.cs t)) : w.cell? ⟨g, 0, none⟩ = some (.slice x.c t.cls.length x.cc) ∧ w.cell? ⟨g, 1, none⟩ = some (.slice x.a t.act.length x.ca) ∧ w.cell? ⟨g, 2, none⟩ = some (.slice x.ln t.ln.length x.cln) ∧ w.cell? ⟨g, 3, none⟩ = some (.slice x.lm t.lm.length x.clm) ∧ w.cell? ⟨g, 4, none⟩ = some (.slice x.rn t.rn.length x.crn) ∧ w.cell? ⟨g, 5, none⟩ = some (.slice x.rm t.rm.length x.crm) ∧ g < w.heap.size :=
  ⟨h.cell 0, h.cell 1, h.cell 2, h.cell 3, h.cell 4, h.cell 5, h.lt⟩
theorem boxV (w : World) (T : TypeId) (cs : Array Value) : ∃ u, u = w.alloc (.cells cs T) ∧ Hid (Below w.heap.size w u) ∧ Hid (Blk u w.heap.size T cs) := ⟨_, rfl, (Below.refl _ _).alloc (Nat.le_refl _) _, Blk.new _ _ _⟩
theorem blk2 {w : World} {g T : Nat} {a b : Value} (h : Blk w g T #[a, b]) : w.cell? ⟨g, 0, none⟩ = some a ∧ w.cell? ⟨g, 1, none⟩ = some b ∧ g < w.heap.size := ⟨h.cell 0, h.cell 1, h.lt⟩
theorem bytes_eq (s t : Nm) : ((ByteArray.mk s.toArray) == (ByteArray.mk t.toArray)) = decide (s = t) := by
  by_cases h : s = t
  · subst h
    rw [decide_eq_true rfl]
    exact (Go.MapKept.bytes_beq _ _).2 rfl
  · rw [decide_eq_false h]
    apply Bool.eq_false_iff.2
    intro he
    have h1 := (Go.MapKept.bytes_beq _ _).1 he
    injection h1 with h1
    exact h (by simpa using h1)
end Go.UtYtkpblieanejmeaa
