/-
  Tables of rules for boundaries, properties and boundaries; plain lists.
-/
namespace Go.UtYtkpblieanejmeaa
abbrev Nm := List UInt8
/-- a table: names of classes, actions, the left and the right automaton (next states, marks) -/
structure BT where
  cls : List Nm
  act : List Int
  ln : List (List Int)
  lm : List (List Int)
  rn : List (List Int)
  rm : List (List Int)
/-- a property: names and spans (first, last, value) -/
structure PR where
  names : List Nm
  spans : List (Int × Int × Int)
def nbyte (b : UInt8) : Bool := (65 ≤ b && b ≤ 90) || (97 ≤ b && b ≤ 122) || (48 ≤ b && b ≤ 57) || b == 95
def nameB (s : Nm) : Bool := decide (1 ≤ s.length) && decide (s.length ≤ 32) && s.all nbyte
/-- keep break must attach any start end -/
def bwords : List Nm := [[107, 101, 101, 112], [98, 114, 101, 97, 107], [109, 117, 115, 116], [97, 116, 116, 97, 99, 104], [97, 110, 121], [115, 116, 97, 114, 116], [101, 110, 100]]
/-- no two are equal -/
def distL {α : Type} (l : List α) : Prop := ∀ (i j : Nat) (a b : α), i < j → l[i]? = some a → l[j]? = some b → a ≠ b
def clsOk (l : List Nm) : Prop := (1 ≤ l.length ∧ l.length ≤ 60) ∧ (∀ s ∈ l, nameB s = true ∧ s ∉ bwords) ∧ distL l
/-- ascending from least on, less than n -/
def ascL (n : Int) : Int → List Int → Prop
  | _, [] => True
  | least, x :: xs => (least ≤ x ∧ x < n) ∧ ascL n (x + 1) xs
def rowOk (n k : Nat) (r : List Int) : Prop := r.length = k ∧ ∀ x ∈ r, 0 ≤ x ∧ x < (n : Int)
def soundP (nx mk : List (List Int)) (k a : Nat) : Prop := (1 ≤ nx.length ∧ nx.length ≤ 400) ∧ mk.length = nx.length ∧ (∀ r ∈ nx, rowOk nx.length k r) ∧ ∀ m ∈ mk, ascL (a : Int) 0 m
def validT (t : BT) : Prop := clsOk t.cls ∧ t.act.length ≤ 100 ∧ (∀ a ∈ t.act, 1 ≤ a ∧ a ≤ 3) ∧ soundP t.ln t.lm t.cls.length t.act.length ∧ soundP t.rn t.rm t.cls.length t.act.length
def namesOk (l : List Nm) : Prop := (1 ≤ l.length ∧ l.length ≤ 250) ∧ (∀ s ∈ l, nameB s = true) ∧ distL l
def spanOk (n : Nat) (s : Int × Int × Int) : Prop := 0 ≤ s.1 ∧ s.1 ≤ s.2.1 ∧ s.2.1 ≤ 1114111 ∧ 1 ≤ s.2.2 ∧ s.2.2 < (n : Int)
def joinOk (p s : Int × Int × Int) : Prop := p.2.1 < s.1 ∧ ¬ (s.1 = p.2.1 + 1 ∧ s.2.2 = p.2.2)
def spansOk (n : Nat) (l : List (Int × Int × Int)) : Prop := (∀ s ∈ l, spanOk n s) ∧ ∀ (i : Nat) (p s : Int × Int × Int), l[i]? = some p → l[i + 1]? = some s → joinOk p s
def validP (p : PR) : Prop := namesOk p.names ∧ spansOk p.names.length p.spans
/-- Other -/
def other : PR := ⟨[[79, 116, 104, 101, 114]], []⟩
open Classical in
noncomputable def cntd (p : PR) : PR := if validP p then p else other
def getS (l : List (Int × Int × Int)) (c : Int) : Int := ((l.find? fun s => decide (s.1 ≤ c) && decide (c ≤ s.2.1)).map (·.2.2)).getD 0
noncomputable def nameV (p : PR) (c : Int) : Nm := (cntd p).names.getD (getS (cntd p).spans c).toNat []
def idxL (l : List Nm) (s : Nm) : Int := ((l.findIdx? (· == s)).getD 0 : Nat)
noncomputable def clsL (p : PR) (t : BT) (text : List Int) : List Int := text.map fun c => idxL t.cls (nameV p c)
/-- one step of an automaton -/
def dl (nx : List (List Int)) (s c : Int) : Int := (nx.getD s.toNat []).getD c.toNat 0
def runA (nx : List (List Int)) (s : Int) (l : List Int) : Int := l.foldl (dl nx) s
/-- the states before each position -/
def lefts (nx : List (List Int)) (l : List Int) : List Int := (List.range (l.length + 1)).map fun i => runA nx 0 (l.take i)
/-- the states behind each position, read from the end -/
def runR (nx : List (List Int)) (l : List Int) : Int := l.foldr (fun c s => dl nx s c) 0
def rights (nx : List (List Int)) (l : List Int) : List Int := (List.range (l.length + 1)).map fun i => runR nx (l.drop i)
def comm (a b : List Int) : Option Int := a.find? fun x => decide (x ∈ b)
def actS (t : BT) (s u : Int) : Int := ((comm (t.lm.getD s.toNat []) (t.rm.getD u.toNat [])).map fun r => t.act.getD r.toNat 0).getD 2
/-- the actions at all positions, for a list of classes -/
def actsL (t : BT) (l : List Int) : List Int := (List.range (l.length + 1)).map fun i => actS t (runA t.ln 0 (l.take i)) (runR t.rn (l.drop i))
/-- the positions with an action other than Keep -/
def endsL (l : List Int) : List Int := ((List.range l.length).filter fun i => decide (l.getD i 1 ≠ 1)).map fun (i : Nat) => (i : Int)
open Classical in
/-- the boundaries of a text -/
noncomputable def bndL (p : PR) (t : BT) (text : List Int) : List Int := if validT t then endsL (actsL t (clsL p t text)) else []
/-- all classes -/
def fitsL (t : BT) (l : List Int) : Prop := ∀ c ∈ l, 0 ≤ c ∧ c < (t.cls.length : Int)
theorem idxL_fit {l : List Nm} (h : 1 ≤ l.length) (s : Nm) : 0 ≤ idxL l s ∧ idxL l s < (l.length : Int) := by
  unfold idxL
  cases hf : l.findIdx? (· == s) with
  | none => simp; omega
  | some i =>
    have := (List.findIdx?_eq_some_iff_getElem.1 hf).1
    simp
    omega
theorem clsL_fit {p : PR} {t : BT} {text : List Int} (h : validT t) : fitsL t (clsL p t text) := by
  intro c hc
  unfold clsL at hc
  obtain ⟨x, _, rfl⟩ := List.mem_map.1 hc
  exact idxL_fit h.1.1.1 _
theorem dl_fit {nx mk : List (List Int)} {k a : Nat} (h : soundP nx mk k a) {s c : Int} (hs : 0 ≤ s ∧ s < (nx.length : Int)) (hc : 0 ≤ c ∧ c < (k : Int)) : 0 ≤ dl nx s c ∧ dl nx s c < (nx.length : Int) := by
  obtain ⟨r, hr⟩ : ∃ r, nx[s.toNat]? = some r := ⟨_, List.getElem?_eq_getElem (by omega)⟩
  have hro := h.2.2.1 r (List.mem_of_getElem? hr)
  obtain ⟨x, hx⟩ : ∃ x, r[c.toNat]? = some x := ⟨_, List.getElem?_eq_getElem (by rw [hro.1]; omega)⟩
  have : dl nx s c = x := by simp [dl, List.getD_eq_getElem?_getD, hr, hx]
  rw [this]
  exact hro.2 x (List.mem_of_getElem? hx)
theorem runA_fit {nx mk : List (List Int)} {k a : Nat} (h : soundP nx mk k a) : ∀ (l : List Int) (s : Int), (0 ≤ s ∧ s < (nx.length : Int)) → (∀ c ∈ l, 0 ≤ c ∧ c < (k : Int)) → 0 ≤ runA nx s l ∧ runA nx s l < (nx.length : Int)
  | [], s, hs, _ => hs
  | c :: l, s, hs, hl => runA_fit h l _ (dl_fit h hs (hl c (by simp))) (fun x hx => hl x (by simp [hx]))
theorem runR_fit {nx mk : List (List Int)} {k a : Nat} (h : soundP nx mk k a) : ∀ (l : List Int), (∀ c ∈ l, 0 ≤ c ∧ c < (k : Int)) → 0 ≤ runR nx l ∧ runR nx l < (nx.length : Int)
  | [], _ => by have := h.1.1; unfold runR; simp; omega
  | c :: l, hl => dl_fit h (runR_fit h l (fun x hx => hl x (by simp [hx]))) (hl c (by simp))
theorem runA_snoc (nx : List (List Int)) (s c : Int) (l : List Int) : runA nx s (l ++ [c]) = dl nx (runA nx s l) c := by simp [runA]
theorem runA_append (nx : List (List Int)) (s : Int) (l m : List Int) : runA nx s (l ++ m) = runA nx (runA nx s l) m := by simp [runA]
end Go.UtYtkpblieanejmeaa
