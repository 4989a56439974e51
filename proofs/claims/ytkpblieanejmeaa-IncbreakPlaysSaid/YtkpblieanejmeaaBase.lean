/-
  Words and laws about rows of cells in memory, over whatever program: a slice that reads as a list, append and copy onto rows of the call's own.
-/
import Derived.Below
import Derived.Laws.Slices
import Derived.Laws.OwnMore
import Derived.Deep.AppendLies
import Derived.Deep.Draws
import Derived.Carry
import Derived.Deep.QuietTactic
import Derived.Maps.AppendAt
import Derived.OwnWalk
import Derived.Laws.CopyOwn
import Derived.Lib.Hide
namespace Go.UtYtkpblieanejmeaa
open Go.RowKit
/-- The slice at A holds the cells vs, in a block below B. -/
def Row (w : World) (B : Nat) (A : Option Addr) (vs : List Value) : Prop :=
  vs ≠ [] → ∃ b o, A = some ⟨b, o, none⟩ ∧ b < B ∧ ∀ k v, vs[k]? = some v → w.cell? ⟨b, o + k, none⟩ = some v
def ints (xs : List Int) : List Value := xs.map (Value.int .i64)
theorem ints_len (xs : List Int) : (ints xs).length = xs.length := by simp [ints]
theorem ints_one (xs : List Int) : ∀ u ∈ ints xs, u.oneCell' = true := by
  intro u hu
  obtain ⟨x, _, rfl⟩ := List.mem_map.1 hu
  rfl
theorem ints_append (xs ys : List Int) : ints (xs ++ ys) = ints xs ++ ints ys := by simp [ints]
theorem ints_drop (xs : List Int) (k : Nat) : ints (xs.drop k) = (ints xs).drop k := by simp [ints, List.map_drop]
theorem ints_take (xs : List Int) (k : Nat) : ints (xs.take k) = (ints xs).take k := by simp [ints, List.map_take]
theorem ret_int {k : IntKind} {a b : Int} (h : a = b) : Ending.returned (.int k a) = .returned (.int k b) := by rw [h]
theorem ret_bool {a b : Bool} (h : a = b) : Ending.returned (.bool a) = .returned (.bool b) := by rw [h]
theorem below_drewN {B : Nat} {a w : World} (h : Below B a w) (n : Nat) : Below B a (w.drewN n) := ⟨h.os, h.tape, h.output, h.size, h.block⟩
theorem undrew {B : Nat} {w w' : World} (h : Below B w.drew w') : Below B w w' := ⟨h.os, h.tape, h.output, h.size, h.block⟩
/-- One call after the other. -/
theorem below_then {a w w' : World} {B : Nat} (h : Below B a w) (h' : Below w.heap.size w w') (hB : B ≤ a.heap.size) : Below B a w' :=
  h.trans (h'.mono (Nat.le_trans hB h.size))
theorem below_cells {W w1 : World} (hb : Below W.heap.size W w1) : (∀ b o, b < W.heap.size → w1.cell? ⟨b, o, none⟩ = W.cell? ⟨b, o, none⟩) :=
  fun b o h => hb.cell (p := ⟨b, o, none⟩) h
/-- where a part of a slice begins -/
def cutA (A : Option Addr) (m l s : Nat) : Option Addr := if m = l then A else A.map (·.add (l * s))
theorem cutA_some {b o m l : Nat} (h : m ≠ l) : cutA (some ⟨b, o, none⟩) m l 1 = some ⟨b, o + l, none⟩ := by
  unfold cutA
  rw [if_neg h]
  by_cases h0 : l = 0 <;> simp [Addr.add, h0]
theorem cutA_some0 {b m l : Nat} (h : m ≠ l) : cutA (some ⟨b, 0, none⟩) m l 1 = some ⟨b, l, none⟩ := by
  rw [cutA_some h, Nat.zero_add]
/-- the slice expressions, without a split at the capacity -/
theorem cut_any {P : Program} (w : World) (t : TypeId) (a : Option Addr) (len cap : Nat) (ht : P.underlying t = some (.slice (P.elem t))) (lo hi mx : Option Value) :
    (Instr.slice t (.slice a len cap) lo hi mx).run P w =
      ((Instr.sliceBounds true len cap lo hi mx).run P w).andThen fun b w => ((sizeOf (P.elem t)).run P w).andThen fun s w => .ok (.slice (cutA a b.2.2 b.1 s) (b.2.1 - b.1) (b.2.2 - b.1)) w :=
  run_slice_any w t a len cap ht lo hi mx
theorem cut_lh {P : Program} (w : World) (t : TypeId) (a : Option Addr) (len cap : Nat) (ht : P.underlying t = some (.slice (P.elem t))) (kl kh : IntKind) (l h : Int) (h0 : 0 ≤ l) (h1 : l ≤ h) (h2 : h ≤ cap) :
    (Instr.slice t (.slice a len cap) (some (.int kl l)) (some (.int kh h)) none).run P w = ((sizeOf (P.elem t)).run P w).andThen fun s w => .ok (.slice (cutA a cap l.toNat s) (h.toNat - l.toNat) (cap - l.toNat)) w :=
  run_slice_lh w t a len cap ht kl kh l h h0 h1 h2
theorem cut_l {P : Program} (w : World) (t : TypeId) (a : Option Addr) (len cap : Nat) (ht : P.underlying t = some (.slice (P.elem t))) (kl : IntKind) (l : Int) (h0 : 0 ≤ l) (h1 : l ≤ len) :
    (Instr.slice t (.slice a len cap) (some (.int kl l)) none none).run P w = ((sizeOf (P.elem t)).run P w).andThen fun s w => .ok (.slice (cutA a cap l.toNat s) (len - l.toNat) (cap - l.toNat)) w :=
  run_slice_l w t a len cap ht kl l h0 h1
theorem cut_lhm {P : Program} (w : World) (t : TypeId) (a : Option Addr) (len cap : Nat) (ht : P.underlying t = some (.slice (P.elem t))) (kl kh km : IntKind) (l h m : Int) (h0 : 0 ≤ l) (h1 : l ≤ h) (h2 : h ≤ m) (h3 : m ≤ cap) :
    (Instr.slice t (.slice a len cap) (some (.int kl l)) (some (.int kh h)) (some (.int km m))).run P w = ((sizeOf (P.elem t)).run P w).andThen fun s w => .ok (.slice (cutA a m.toNat l.toNat s) (h.toNat - l.toNat) (m.toNat - l.toNat)) w :=
  run_slice_lhm w t a len cap ht kl kh km l h m h0 h1 h2 h3
theorem cutA_zero (A : Option Addr) (m s : Nat) : cutA A m 0 s = A := by
  unfold cutA
  split
  · rfl
  · cases A <;> simp [Addr.add]
section
variable {w w' : World} {B B' : Nat} {A : Option Addr} {vs : List Value} {xs : List Int}
theorem Row.nil : Row w B A [] := fun h => absurd rfl h
theorem Row.keep (h : Row w B A vs) (hk : ∀ p : Addr, p.block < B → w'.cell? p = w.cell? p) : Row w' B A vs := fun hv => by
  obtain ⟨b, o, e, hb, hc⟩ := h hv
  exact ⟨b, o, e, hb, fun k v hk' => (hk _ hb).trans (hc k v hk')⟩
theorem Row.more (h : Row w B A vs) (hB : B ≤ B') : Row w B' A vs := fun hv => by
  obtain ⟨b, o, e, hb, hc⟩ := h hv
  exact ⟨b, o, e, by omega, hc⟩
theorem Row.lt (h : Row w B A vs) : Row w w.heap.size A vs := fun hv => by
  obtain ⟨b, o, e, hb, hc⟩ := h hv
  refine ⟨b, o, e, ?_, hc⟩
  have hl : 0 < vs.length := List.length_pos_iff.2 hv
  exact World.block_lt_of_cell? w _ (hc 0 _ (List.getElem?_eq_getElem hl))
theorem Row.below (h : Row w B A vs) (hb : Below B w w') : Row w' B A vs := h.keep fun _ hp => hb.cell hp
theorem Row.drewN (h : Row w B A vs) (n : Nat) : Row (w.drewN n) B A vs := h
theorem Row.grown (h : Row w B A vs) {row : Option Nat} (hg : w.grownBy w' row) (hB : B ≤ w.heap.size) (hr : ∀ g, row = some g → B ≤ g) : Row w' B A vs :=
  h.keep fun p hp => World.cell?_of_block (hg.block p.block (by omega) (fun e => by have := hr _ e.symm; omega))
/-- a part of a row: l its first element, m the new end of the capacity, s the cells of an element -/
theorem Row.cut (h : Row w B A vs) {l m j s : Nat} (hm : vs.length ≤ m * s ∨ j ≤ (m - l) * s) : Row w B (cutA A m l s) ((vs.drop (l * s)).take j) := fun hv => by
  have hne : vs.drop (l * s) ≠ [] := fun e => hv (by rw [e]; simp)
  have hl : l * s < vs.length := by
    rcases Nat.lt_or_ge (l * s) vs.length with h | h
    · exact h
    · exact absurd (List.drop_eq_nil_of_le h) hne
  have hml : m ≠ l := fun e => by
    subst e
    rcases hm with hm | hm
    · omega
    · rw [Nat.sub_self, Nat.zero_mul] at hm
      exact hv (by rw [Nat.le_zero.1 hm]; simp)
  obtain ⟨b, o, rfl, hb, hcell⟩ := h (fun e => by rw [e] at hl; simp at hl)
  unfold cutA
  rw [if_neg hml]
  refine ⟨b, o + l * s, ?_, hb, fun j v hj => ?_⟩
  · simp only [Option.map_some, Addr.add]
    by_cases h0 : l * s = 0 <;> simp [h0]
  · rw [Nat.add_assoc]
    refine hcell _ v ?_
    rw [List.getElem?_take] at hj
    split at hj
    · rw [← hj, List.getElem?_drop]
    · cases hj
theorem Row.tail (h : Row w B A (ints xs)) {l c : Nat} (hc : xs.length ≤ c) : Row w B (cutA A c l 1) (ints (xs.drop l)) := by
  have := h.cut (l := l) (m := c) (s := 1) (j := xs.length) (.inl (by rw [ints_len]; omega))
  rw [ints_drop]
  rwa [Nat.mul_one, List.take_of_length_le (by rw [List.length_drop, ints_len]; omega)] at this
theorem Row.init (h : Row w B A (ints xs)) {k : Nat} : Row w B A (ints (xs.take k)) := fun hv => by
  obtain ⟨b, o, e, hb, hc⟩ := h (fun e => hv (by rw [ints_take, e]; simp))
  refine ⟨b, o, e, hb, fun j v hj => hc j v ?_⟩
  rw [ints_take, List.getElem?_take] at hj
  split at hj
  · exact hj
  · cases hj
theorem Row.mid (h : Row w B A (ints xs)) {l m : Nat} : Row w B (cutA A m l 1) (ints ((xs.drop l).take (m - l))) := by
  have := h.cut (l := l) (m := m) (s := 1) (j := m - l) (.inr (by omega))
  rw [ints_take, ints_drop]
  rwa [Nat.mul_one] at this
/-- the cell of an element -/
theorem Row.at_ (h : Row w B A vs) {k : Nat} (hk : k < vs.length) : ∃ b o v, A = some ⟨b, o, none⟩ ∧ b < B ∧ vs[k]? = some v ∧ w.cell? ⟨b, o + k, none⟩ = some v := by
  obtain ⟨b, o, e, hb, hc⟩ := h (fun e => by subst e; simp at hk)
  exact ⟨b, o, vs[k], e, hb, List.getElem?_eq_getElem hk, hc k _ (List.getElem?_eq_getElem hk)⟩
theorem Row.at_int (h : Row w B A (ints xs)) {k : Nat} (hk : k < xs.length) : ∃ b o x, A = some ⟨b, o, none⟩ ∧ b < B ∧ Hid (xs[k]? = some x) ∧ w.cell? ⟨b, o + k, none⟩ = some (.int .i64 x) := by
  obtain ⟨b, o, v, e, hb, hv, hc⟩ := h.at_ (k := k) (by simpa [ints] using hk)
  refine ⟨b, o, xs[k], e, hb, List.getElem?_eq_getElem hk, ?_⟩
  simp only [ints, List.getElem?_map, List.getElem?_eq_getElem hk, Option.map_some, Option.some.injEq] at hv
  rw [hv]; exact hc
/-- the other way: from a block that is known -/
theorem Row.of_block {g o : Nat} {cur : Array Value} {t : TypeId} {fr : Nat × Nat} (hg : w.heap[g]? = some (.cells cur t fr)) (hv : ∀ k v, vs[k]? = some v → cur[o + k]? = some v) : Row w w.heap.size (some ⟨g, o, none⟩) vs := fun _ =>
  ⟨g, o, rfl, (Array.getElem?_eq_some_iff.1 hg).1, fun k v hk => (by
    simp only [World.cell?, hg]
    exact hv k v hk)⟩
theorem own_row {base e size n : Nat} {v : Value} (h : w.ownsRow base e size v n vs) : ∃ A c, v = .slice A n c ∧ n ≤ c ∧ c ≤ maxLen ∧ Row w w.heap.size A vs := by
  rcases h.2 with ⟨rfl, rfl⟩ | ⟨g, cap, cur, rfl, hb, hh, hn, hm, hs, ht⟩
  · have : vs = [] := List.eq_nil_of_length_eq_zero (by simpa using h.1)
    subst this
    exact ⟨none, 0, rfl, by omega, by simp [maxLen], Row.nil⟩
  · refine ⟨_, cap, rfl, hn, hm, Row.of_block hh fun k v hk => ?_⟩
    rw [← ht, List.getElem?_take] at hk
    split at hk
    · simpa using hk
    · cases hk
/-- the slice lies in a block from B on, if anywhere -/
def NewAt (B : Nat) (A : Option Addr) : Prop := ∀ a, A = some a → B ≤ a.block
theorem NewAt.none_ {B : Nat} : NewAt B none := fun _ h => by cases h
theorem NewAt.mono {B B' : Nat} {A : Option Addr} (h : NewAt B A) (hB : B' ≤ B) : NewAt B' A := fun a ha => Nat.le_trans hB (h a ha)
theorem NewAt.at_ {B b o : Nat} (h : B ≤ b) : NewAt B (some ⟨b, o, none⟩) := fun a ha => by injection ha with ha; subst ha; exact h
theorem Row.far (h : Row w B A vs) {N : Nat} (hn : NewAt N A) {p : Addr} (hp : p.block < N) (u : Value) : Row (w.setCell p u) B A vs := fun hv => by
  obtain ⟨b, o, e, hb, hc⟩ := h hv
  refine ⟨b, o, e, hb, fun k v hk => (World.cell?_setCell_other w p ⟨b, o + k, none⟩ u ?_).trans (hc k v hk)⟩
  intro e2
  have := hn _ e
  subst e2
  simp at hp this
  omega
theorem Row.far3 (h : Row w B A vs) {N g : Nat} (hn : NewAt N A) (hp : g < N) (a b c : Value) : Row (((w.setCell ⟨g, 0, none⟩ a).setCell ⟨g, 1, none⟩ b).setCell ⟨g, 2, none⟩ c) B A vs :=
  ((h.far hn (p := ⟨g, 0, none⟩) hp a).far hn (p := ⟨g, 1, none⟩) hp b).far hn (p := ⟨g, 2, none⟩) hp c
theorem below_set3 {B g : Nat} {a : World} (h : Below B a w) (hp : B ≤ g) (u v z : Value) : Below B a (((w.setCell ⟨g, 0, none⟩ u).setCell ⟨g, 1, none⟩ v).setCell ⟨g, 2, none⟩ z) :=
  ((h.setCell (p := ⟨g, 0, none⟩) hp u).setCell (p := ⟨g, 1, none⟩) hp v).setCell (p := ⟨g, 2, none⟩) hp z
theorem own_new {base e size n : Nat} {A : Option Addr} {c : Nat} (h : w.ownsRow base e size (.slice A n c) n vs) : NewAt base A := fun a ha => by
  rcases h.2 with ⟨h', _⟩ | ⟨g, cap, cur, h', hb, _⟩
  · injection h' with h'; rw [h'] at ha; cases ha
  · injection h' with h'; rw [h'] at ha; injection ha with ha; subst ha; exact hb
theorem own_nil {base e size : Nat} (w : World) : w.ownsRow base e size (.slice none 0 0) 0 [] := ⟨by simp, .inl ⟨rfl, rfl⟩⟩
theorem own_base {base e size n : Nat} {v : Value} (h : w.ownsRow base e size v n vs) : ∀ g, v.ownBlock = some g → base ≤ g := by
  intro g hg
  rcases h.2 with ⟨rfl, _⟩ | ⟨g', cap, cur, rfl, hb, _⟩
  · simp [Value.ownBlock] at hg
  · simp [Value.ownBlock] at hg
    omega
end
/-- block g is known whole, nothing in it is frozen -/
def Blk (w : World) (g : Nat) (t : TypeId) (cs : Array Value) : Prop := w.heap[g]? = some (.cells cs t (0, 0))
section
variable {w w' : World} {g : Nat} {t : TypeId} {cs : Array Value}
theorem Blk.lt (h : Blk w g t cs) : g < w.heap.size := (Array.getElem?_eq_some_iff.1 h).1
theorem Blk.cell (h : Blk w g t cs) (i : Nat) : w.cell? ⟨g, i, none⟩ = cs[i]? := by
  unfold Blk at h
  simp only [World.cell?, h]
  rfl
theorem Blk.free (h : Blk w g t cs) (i : Nat) : w.frozen? ⟨g, i, none⟩ = false := by
  unfold Blk at h
  simp [World.frozen?, h]
theorem Blk.new (w : World) (t : TypeId) (cs : Array Value) : Blk (w.alloc (.cells cs t)) w.heap.size t cs := heap_alloc_new w _
theorem Blk.alloc (h : Blk w g t cs) (o : Obj) : Blk (w.alloc o) g t cs := (Below.heap_alloc w o g h.lt).trans h
theorem Blk.below {B : Nat} (h : Blk w g t cs) (hb : Below B w w') (hg : g < B) : Blk w' g t cs := (hb.block g hg).trans h
theorem Blk.after (h : Blk w g t cs) (hb : Below w.heap.size w w') : Blk w' g t cs := h.below hb h.lt
theorem Blk.set_ (h : Blk w g t cs) (i : Nat) (u : Value) : Blk (w.setCell ⟨g, i, none⟩ u) g t (cs.setIfInBounds i u) := by
  unfold Blk at h ⊢
  simp [World.setCell, Array.getElem?_modify, h]
theorem Blk.far (h : Blk w g t cs) {p : Addr} (hp : g ≠ p.block) (u : Value) : Blk (w.setCell p u) g t cs := (Below.heap_setCell w p u g hp).trans h
theorem Blk.row (h : Blk w g t cs) {vs : List Value} (hv : cs.toList = vs) : Row w w.heap.size (some ⟨g, 0, none⟩) vs := by
  subst hv
  exact Row.of_block h (fun k v hk => by simpa using hk)
theorem Blk.far3 (h : Blk w g t cs) {g' : Nat} (hp : g ≠ g') (a b c : Value) : Blk (((w.setCell ⟨g', 0, none⟩ a).setCell ⟨g', 1, none⟩ b).setCell ⟨g', 2, none⟩ c) g t cs :=
  ((h.far (p := ⟨g', 0, none⟩) hp a).far (p := ⟨g', 1, none⟩) hp b).far (p := ⟨g', 2, none⟩) hp c
theorem Blk.drewN (h : Blk w g t cs) (n : Nat) : Blk (w.drewN n) g t cs := h
theorem Blk.drew (h : Blk w g t cs) : Blk w.drew g t cs := h
theorem Blk.cells3 {a b c : Value} (h : Blk w g t #[a, b, c]) : w.cell? ⟨g, 0, none⟩ = some a ∧ w.cell? ⟨g, 1, none⟩ = some b ∧ w.cell? ⟨g, 2, none⟩ = some c := ⟨h.cell 0, h.cell 1, h.cell 2⟩
theorem Blk.free3 (h : Blk w g t cs) : w.frozen? ⟨g, 0, none⟩ = false ∧ w.frozen? ⟨g, 1, none⟩ = false ∧ w.frozen? ⟨g, 2, none⟩ = false := ⟨h.free 0, h.free 1, h.free 2⟩
end
section
variable {P : Program} (w : World)
theorem run_append_nilsrc (base : Nat) (t ty e : TypeId) (i : TypeInfo) (size : Nat) (ht : P.underlying t = some (.slice e)) (hi : P.info? e = some i)
    (v : Value) (n : Nat) (xs : List Value) (hown : w.ownsRow base e size v n xs) (c : Nat) : (Builtin.append_ #[t, t] ty #[v, .slice none 0 c]).run P w = .ok v w := by
  rcases hown.2 with ⟨rfl, rfl⟩ | ⟨g, cap, cur, rfl, _, _, hnc, _⟩
  · simp [Builtin.append_, run_underlying ht, sizeOf, typeInfo, hi, Builtin.lenOf, Builtin.firstCells]
  · simp [Builtin.append_, run_underlying ht, sizeOf, typeInfo, hi, Builtin.lenOf, Builtin.firstCells, hnc, storeCells]
/-- append onto a row of the call's own, the source whatever row, nil too. -/
theorem run_append_row (base : Nat) (t ty e : TypeId) (i : TypeInfo) (z : Value) (size bytes : Nat) (ht : P.underlying t = some (.slice e)) (hi : P.info? e = some i) (hz : i.zero = some z)
    (hsize : i.size = size) (hby : i.bytes = bytes) (hzs : z.cells.size = size) (hsz : 0 < size)
    (v : Value) (n : Nat) (xs : List Value) (hown : w.ownsRow base e size v n xs)
    (B : Nat) (A : Option Addr) (m c : Nat) (news : List Value) (hl : news.length = m * size) (hr : Row w B A news) (h1 : ∀ u ∈ news, u.oneCell' = true)
    (h63 : n + m ≤ maxLen) (hbytes : (n + m) * bytes ≤ 140737488355328) (hbase : base ≤ w.heap.size) :
    ∃ v' w', (Builtin.append_ #[t, t] ty #[v, .slice A m c]).run P w = .ok v' w' ∧ w'.ownsRow base e size v' (n + m) (xs ++ news) ∧ w.grownBy w' v.ownBlock ∧
      (v'.ownBlock = v.ownBlock ∨ v'.ownBlock = some w.heap.size) := by
  rcases A with _ | ad
  · have hn : news = [] := Classical.byContradiction fun h => by obtain ⟨_, _, h', _⟩ := hr h; cases h'
    subst hn
    have hm : m = 0 := by
      have : 0 = m * size := by simpa using hl
      rcases Nat.mul_eq_zero.1 this.symm with h | h <;> omega
    subst hm
    exact ⟨v, w, run_append_nilsrc w base t ty e i size ht hi v n xs hown c, by simpa using hown, World.grownBy.refl w _, .inl rfl⟩
  · have hcells : ∀ j u, news[j]? = some u → w.cell? (ad.add j) = some u := by
      intro j u hu
      obtain ⟨b, o, h, _, hc⟩ := hr (fun e => by subst e; simp at hu)
      injection h with h
      subst h
      have := hc j u hu
      unfold Addr.add
      by_cases hj : j = 0
      · subst hj; simpa using this
      · simpa [hj] using this
    obtain ⟨v', w', hrun, h2, h3, _, h5⟩ := run_append_own_at (P := P) w base t ty e i z size bytes ht hi hz hsize hby hzs hsz v n xs hown ad m c news hl hcells h1 h63 hbytes hbase
    exact ⟨v', w', hrun, h2, h3, h5⟩
theorem wp_append_row {o : Oper} {a : Act} {K : Act → World → Prop} {Q : Exit → Act → World → Prop} (s x : Operand) (t : TypeId)
    (ho : o.op = .call { callee := .builtin .append, args := #[s, x], argTypes := #[t, t] })
    (base : Nat) (e : TypeId) (i : TypeInfo) (z : Value) (size bytes : Nat) (ht : P.underlying t = some (.slice e)) (hi : P.info? e = some i) (hz : i.zero = some z)
    (hsize : i.size = size) (hby : i.bytes = bytes) (hzs : z.cells.size = size) (hsz : 0 < size)
    (v : Value) (n : Nat) (xs : List Value) (hs : a.eval s = v) (hown : w.ownsRow base e size v n xs)
    (B : Nat) (A : Option Addr) (m c : Nat) (news : List Value) (hx : a.eval x = .slice A m c) (hl : news.length = m * size) (hr : Row w B A news) (h1 : ∀ u ∈ news, u.oneCell' = true)
    (h63 : n + m ≤ maxLen) (hbytes : (n + m) * bytes ≤ 140737488355328) (hbase : base ≤ w.heap.size)
    (h : ∀ v' w', w'.ownsRow base e size v' (n + m) (xs ++ news) → w.grownBy w' v.ownBlock → (v'.ownBlock = v.ownBlock ∨ v'.ownBlock = some w.heap.size) → K (a.put o.dst v') w') : o.wp P a w K Q := by
  obtain ⟨v', w', hrun, h2, h3, h4⟩ := run_append_row (P := P) w base t o.type e i z size bytes ht hi hz hsize hby hzs hsz v n xs hown B A m c news hl hr h1 h63 hbytes hbase
  unfold Oper.wp execOp
  simp only [ho, resolve, invoke, builtin, Sem.run_bind, Sem.run_pure, Result.andThen_ok, List.map_toArray, List.map_cons, List.map_nil, hs, hx, hrun]
  exact h v' w' h2 h3 h4
theorem wpList_append_row {ops : Array Oper} {rest : List Oper} {o : Oper} {a : Act} {Q : Exit → Act → World → Prop} (hgd : o.guard = none) (s x : Operand) (t : TypeId)
    (ho : o.op = .call { callee := .builtin .append, args := #[s, x], argTypes := #[t, t] })
    (base : Nat) (e : TypeId) (i : TypeInfo) (z : Value) (size bytes : Nat) (ht : P.underlying t = some (.slice e)) (hi : P.info? e = some i) (hz : i.zero = some z)
    (hsize : i.size = size) (hby : i.bytes = bytes) (hzs : z.cells.size = size) (hsz : 0 < size)
    (v : Value) (n : Nat) (xs : List Value) (hs : a.eval s = v) (hown : w.ownsRow base e size v n xs)
    (B : Nat) (A : Option Addr) (m c : Nat) (news : List Value) (hx : a.eval x = .slice A m c) (hl : news.length = m * size) (hr : Row w B A news) (h1 : ∀ u ∈ news, u.oneCell' = true)
    (h63 : n + m ≤ maxLen) (hbytes : (n + m) * bytes ≤ 140737488355328) (hbase : base ≤ w.heap.size)
    (h : ∀ v' w', w'.ownsRow base e size v' (n + m) (xs ++ news) → w.grownBy w' v.ownBlock → (v'.ownBlock = v.ownBlock ∨ v'.ownBlock = some w.heap.size) → wpList P ops Q rest (a.put o.dst v') w') : wpList P ops Q (o :: rest) a w :=
  wpList_plain hgd fun _ hK => wp_append_row w s x t ho base e i z size bytes ht hi hz hsize hby hzs hsz v n xs hs hown B A m c news hx hl hr h1 h63 hbytes hbase fun v' w' h2 h3 h4 => hK _ _ (h v' w' h2 h3 h4)
/-- make([]T, n), elements of one cell: the new block, whole -/
theorem wpList_make_block {ops : Array Oper} {rest : List Oper} {o : Oper} {a : Act} {Q : Exit → Act → World → Prop} (hgd : o.guard = none) (l c : Operand) (t : TypeId) (hop : o.op = Op.makeSlice t l c)
    (e : TypeId) (i : TypeInfo) (z : Value) (h1 : P.underlying t = some (.slice e)) (h2 : P.info? e = some i) (h3 : i.zero = some z) (h4 : i.size = 1)
    (kl kc : IntKind) (L C : Int) (n : Nat) (hl : a.eval l = .int kl L) (hc : a.eval c = .int kc C) (hL : L = (n : Int)) (hC : C = (n : Int)) (b2 : i.bytes * n ≤ 281474976710656) (b3 : n ≤ maxLen)
    (hK : ∀ (w' : World) (zs : List Value), zs.length = n → Hid (w'.heap[w.heap.size]? = some (.cells zs.toArray e (0, 0))) → Hid (w.heap.size < w'.heap.size) → Hid (Below w.heap.size w w') → wpList P ops Q rest (a.put o.dst (.slice (some ⟨w.heap.size, 0, none⟩) n n)) w') :
    wpList P ops Q (o :: rest) a w := by
  refine wpList_make_full w hgd l c t hop w.heap.size e i z 1 h1 h2 h3 h4 kl kc L C n hl hc hL hC b2 b3 (Nat.le_refl _) ?_
  intro w1 ho hg
  rcases ho.2 with ⟨h, _⟩ | ⟨g, cap, cur, h, _, hh, _, _, hs, _⟩
  · simp at h
  · injection h with h1 h2 h3
    injection h1 with h1
    injection h1 with h1
    subst h1
    exact hK w1 cur.toList (by simpa [← h3] using hs) hh (Array.getElem?_eq_some_iff.1 hh).1 ((Below.refl _ _).grown hg (Nat.le_refl _) (fun _ h => by cases h))
/-- copy of a whole row into a block of the call's own: what the run comes to -/
theorem run_copy_into {w : World} (T ty elem : TypeId) (hu : P.underlying T = some (.slice elem)) (hsz : (P.info? elem).map (·.size) = some 1)
    (g off : Nat) (dp : Option Addr) (dLen dCap : Nat) (hdp : 0 < dLen → dp = some ⟨g, off, none⟩)
    (B' : Nat) (A : Option Addr) (sLen sCap : Nat) (vs : List Value) (hvl : vs.length = sLen) (hr : Row w B' A vs) (hle : sLen ≤ dLen)
    (cur : List Value) (hg : w.heap[g]? = some (.cells cur.toArray elem (0, 0))) (hfit : off + sLen ≤ cur.length) (h1 : ∀ v ∈ vs, v.oneCell' = true) (B : Nat) (w0 : World) (hb : Below B w0 w) (hBg : B ≤ g) :
    ∃ w', (Builtin.copy_ #[T, T] ty #[.slice dp dLen dCap, .slice A sLen sCap]).run P w = .ok (goInt sLen) w' ∧ Hid (w'.heap[g]? = some (.cells (splice cur off vs).toArray elem (0, 0))) ∧ Hid (Below B w0 w') := by
  by_cases h0 : sLen = 0
  · subst h0
    obtain rfl : vs = [] := List.eq_nil_of_length_eq_zero hvl
    exact ⟨w, run_copy_none w T T ty elem dp A dLen dCap 0 sCap hu hsz (Nat.zero_min _), (show _ = _ by simpa [splice] using hg), hb⟩
  · obtain ⟨b, o', rfl, _, hc⟩ := hr (fun e => by rw [e] at hvl; simp at hvl; omega)
    obtain rfl := hdp (by omega)
    have hrun := run_copy_row (P := P) w T T ty elem g off dLen dCap ⟨b, o', none⟩ sLen sCap cur.toArray elem vs hu hsz hg (by rw [hvl]; exact (Nat.min_eq_left hle).symm) (fun j v hj => by
      have := hc j v hj
      unfold Addr.add
      by_cases hj : j = 0
      · subst hj; simpa using this
      · simpa [hj] using this) (by rw [hvl]; simpa using hfit) h1
    rw [hvl] at hrun
    refine ⟨_, hrun, ?_, below_setRow hb hBg _⟩
    refine (setRow_heap w g _ _ elem _ hg).trans ?_
    simp [splice, hvl]
end
/-- three copies fill a row -/
theorem splice_three {α : Type} (zs a b c : List α) (h : zs.length = a.length + b.length + c.length) : splice (splice (splice zs 0 a) a.length b) (a.length + b.length) c = a ++ b ++ c := by
  simp only [splice, List.take_zero, List.nil_append, Nat.zero_add]
  have e1 : (a ++ zs.drop a.length).take a.length = a := by simp
  rw [e1]
  have e2 : (a ++ zs.drop a.length).drop (a.length + b.length) = zs.drop (a.length + b.length) := by
    rw [List.drop_append, List.drop_eq_nil_of_le (by omega), List.nil_append, List.drop_drop, Nat.add_sub_cancel_left]
  rw [e2, ← List.append_assoc a b, List.take_append, List.take_of_length_le (by simp)]
  have e3 : (zs.drop (a.length + b.length)).take (a.length + b.length - (a ++ b).length) = [] := by simp
  rw [e3, List.append_nil, List.drop_append, List.drop_eq_nil_of_le (by simp), List.nil_append, List.drop_drop, List.drop_eq_nil_of_le (by simp; omega)]
  simp
end Go.UtYtkpblieanejmeaa
