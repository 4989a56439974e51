/-
  The trie of transduce in memory: its struct, its map, what its nodes hold.
-/
import Derived.Test.YtjohoohdjlajcaaBase
import Derived.Test.YtjohoohdjlajcaaOwn
import Derived.Test.YtjohoohdjlajcaaMk2
import Derived.Test.YtjohoohdjlajcaaTd1
import Derived.Test.YtjohoohdjlajcaaTd2
namespace Go.UtYtjohoohdjlajcaa
open Go.RowKit
/-- numbers of rules, as integers -/
def natI (l : List Nat) : List Int := l.map fun (i : Nat) => (i : Int)
theorem natI_len (l : List Nat) : (natI l).length = l.length := by simp [natI]
theorem natI_get {l : List Nat} {k : Nat} {x : Int} (h : (natI l)[k]? = some x) : ∃ i, l[k]? = some i ∧ x = (i : Int) := by
  unfold natI at h
  rw [List.getElem?_map] at h
  cases e : l[k]? with
  | none => rw [e] at h; cases h
  | some i => rw [e] at h; injection h with h; exact ⟨i, rfl, h.symm⟩
theorem natI_snoc (l : List Nat) (i : Nat) : natI (l ++ [i]) = natI l ++ [(i : Int)] := by simp [natI]
/-- filling a row with its indices -/
def fillI (k : Nat) (zs : List Value) : List Value := ints (natI (List.range k)) ++ zs.drop k
theorem fillI_zero (zs : List Value) : fillI 0 zs = zs := by simp [fillI, natI, ints]
theorem fillI_len {k : Nat} {zs : List Value} (h : k ≤ zs.length) : (fillI k zs).length = zs.length := by simp [fillI, ints_len, natI_len]; omega
theorem fillI_succ {k : Nat} {zs : List Value} (h : k < zs.length) : (fillI k zs).toArray.setIfInBounds k (.int .i64 (k : Int)) = (fillI (k + 1) zs).toArray := by
  unfold fillI
  rw [List.setIfInBounds_toArray, List.set_append_right _ _ (by simp [ints_len, natI_len])]
  congr 1
  rw [show k - (ints (natI (List.range k))).length = 0 by simp [ints_len, natI_len], List.drop_eq_getElem_cons h, List.set_cons_zero]
  simp [ints, natI, List.range_succ]
theorem fillI_all {zs : List Value} {n : Nat} (h : zs.length = n) : fillI n zs = ints (natI (List.range n)) := by simp [fillI, ← h]
/-- a row of integers in a block of integers that is none of X's -/
def IntRow (ti : TypeId) (w : World) (X : Nat → Prop) (A : Option Addr) (xs : List Int) : Prop :=
  xs ≠ [] → ∃ b o cur fr, A = some ⟨b, o, none⟩ ∧ w.heap[b]? = some (.cells cur ti fr) ∧ (∀ k v, (ints xs)[k]? = some v → cur[o + k]? = some v) ∧ ¬ X b
section
variable {ti : TypeId} {w w' : World} {X X' : Nat → Prop} {A : Option Addr} {xs : List Int}
theorem IntRow.row (h : IntRow ti w X A xs) : Row w w.heap.size A (ints xs) := fun hv => by
  obtain ⟨b, o, cur, fr, h1, h2, h3, _⟩ := h (fun e => hv (by rw [e]; rfl))
  refine ⟨b, o, h1, (Array.getElem?_eq_some_iff.1 h2).1, fun k v hk => ?_⟩
  simp only [World.cell?, h2]
  exact h3 k v hk
theorem IntRow.keep (h : IntRow ti w X A xs) (hk : ∀ b cur fr, w.heap[b]? = some (.cells cur ti fr) → ¬ X b → w'.heap[b]? = w.heap[b]?) : IntRow ti w' X A xs := fun hv => by
  obtain ⟨b, o, cur, fr, h1, h2, h3, h4⟩ := h hv
  exact ⟨b, o, cur, fr, h1, (hk b cur fr h2 h4).trans h2, h3, h4⟩
theorem IntRow.newX (h : IntRow ti w X A xs) (hx : ∀ x, X' x → w.heap.size ≤ x ∨ X x) : IntRow ti w X' A xs := fun hv => by
  obtain ⟨b, o, cur, fr, h1, h2, h3, h4⟩ := h hv
  refine ⟨b, o, cur, fr, h1, h2, h3, fun h => ?_⟩
  rcases hx b h with h | h
  · have := (Array.getElem?_eq_some_iff.1 h2).1
    omega
  · exact h4 h
theorem IntRow.nil : IntRow ti w X A [] := fun h => absurd rfl h
theorem IntRow.of_own {base n c : Nat} (h : w.ownsRow base ti 1 (.slice A n c) n (ints xs)) (hX : ∀ x, X x → x < base) : IntRow ti w X A xs := fun hv => by
  rcases h.2 with ⟨h', h0⟩ | ⟨g, cap, cur, h', hb, hh, _, _, hs, ht⟩
  · subst h0
    have := h.1
    rw [ints_len] at this
    exact absurd (List.eq_nil_of_length_eq_zero (by omega)) hv
  · injection h' with h1 h2 h3
    refine ⟨g, 0, cur, (0, 0), h1, hh, fun k v hk => ?_, fun hx => by have := hX g hx; omega⟩
    rw [← ht, List.getElem?_take] at hk
    split at hk
    · simpa using hk
    · cases hk
/-- what the nodes hold -/
def NodesV (ti : TypeId) (w : World) (X : Nat → Prop) (rules : List TR) (vs : List Value) (nodes : List (List Int)) : Prop :=
  vs.length = nodes.length ∧ ∀ (k : Nat) (q : List Int), nodes[k]? = some q → ∃ A' c', vs[k]? = some (.slice A' (alv rules q).length c') ∧ (alv rules q).length ≤ c' ∧ c' ≤ maxLen ∧ IntRow ti w X A' (natI (alv rules q))
theorem NodesV.keep {rules : List TR} {vs : List Value} {nodes : List (List Int)} (h : NodesV ti w X rules vs nodes) (hk : ∀ b cur fr, w.heap[b]? = some (.cells cur ti fr) → ¬ X b → w'.heap[b]? = w.heap[b]?) : NodesV ti w' X rules vs nodes := by
  refine ⟨h.1, fun k q hq => ?_⟩
  obtain ⟨A', c', h1, h2, h3, h4⟩ := h.2 k q hq
  exact ⟨A', c', h1, h2, h3, h4.keep hk⟩
theorem NodesV.newX {rules : List TR} {vs : List Value} {nodes : List (List Int)} (h : NodesV ti w X rules vs nodes) (hx : ∀ x, X' x → w.heap.size ≤ x ∨ X x) : NodesV ti w X' rules vs nodes := by
  refine ⟨h.1, fun k q hq => ?_⟩
  obtain ⟨A', c', h1, h2, h3, h4⟩ := h.2 k q hq
  exact ⟨A', c', h1, h2, h3, h4.newX hx⟩
theorem NodesV.snoc {rules : List TR} {vs : List Value} {nodes : List (List Int)} (h : NodesV ti w X rules vs nodes) {q : List Int} {c' : Nat} (h1 : (alv rules q).length ≤ c') (h2 : c' ≤ maxLen) (h3 : IntRow ti w X A (natI (alv rules q))) :
    NodesV ti w X rules (vs ++ [.slice A (alv rules q).length c']) (nodes ++ [q]) := by
  refine ⟨by simp [h.1], fun k p hp => ?_⟩
  rcases Nat.lt_or_ge k nodes.length with hk | hk
  · rw [List.getElem?_append_left hk] at hp
    rw [List.getElem?_append_left (by rw [h.1]; exact hk)]
    exact h.2 k p hp
  · rw [List.getElem?_append_right hk] at hp
    have hk0 : k - nodes.length = 0 := by
      have := (List.getElem?_eq_some_iff.1 hp).1
      simp at this
      exact this
    rw [hk0] at hp
    simp at hp
    subst hp
    rw [List.getElem?_append_right (by rw [h.1]; exact hk), h.1, hk0]
    exact ⟨A, c', rfl, h1, h2, h3⟩
end
/-- what the map leads to -/
def LinksV (m : List ((Int × Int) × Int)) (nodes : List (List Int)) : Prop := ∀ x ∈ m, ∃ (a b : Nat) (q : List Int), x.1.1 = (a : Int) ∧ x.2 = (b : Int) ∧ nodes[a]? = some q ∧ nodes[b]? = some (q ++ [x.1.2])
theorem LinksV.found {m : List ((Int × Int) × Int)} {nodes : List (List Int)} (h : LinksV m nodes) {a : Nat} {q : List Int} {c v : Int} (hq : nodes[a]? = some q) (hl : lkp m a c = some v) : ∃ b : Nat, v = (b : Int) ∧ nodes[b]? = some (q ++ [c]) := by
  unfold lkp at hl
  cases hf : m.find? fun x => ((a : Int) == x.1.1) && (c == x.1.2) with
  | none => rw [hf] at hl; cases hl
  | some x =>
    rw [hf] at hl
    have hx : x.2 = v := by simpa using hl
    have hp := List.find?_some hf
    simp only [Bool.and_eq_true, beq_iff_eq] at hp
    obtain ⟨a', b, q', h1, h2, h3, h4⟩ := h x (List.mem_of_find?_eq_some hf)
    obtain rfl : a' = a := by have := hp.1; omega
    rw [hq] at h3
    cases h3
    rw [← hp.2] at h4
    exact ⟨b, by omega, h4⟩
theorem LinksV.snoc {m : List ((Int × Int) × Int)} {nodes : List (List Int)} (h : LinksV m nodes) {a : Nat} {q : List Int} {c : Int} (hq : nodes[a]? = some q) : LinksV (m ++ [(((a : Int), c), (nodes.length : Int))]) (nodes ++ [q ++ [c]]) := by
  have up : ∀ {k : Nat} {p : List Int}, nodes[k]? = some p → (nodes ++ [q ++ [c]])[k]? = some p := fun {k p} hk => by
    rw [List.getElem?_append_left (List.getElem?_eq_some_iff.1 hk).1]
    exact hk
  intro x hx
  rcases List.mem_append.1 hx with hx | hx
  · obtain ⟨a', b, q', h1, h2, h3, h4⟩ := h x hx
    exact ⟨a', b, q', h1, h2, up h3, up h4⟩
  · rw [List.mem_singleton] at hx
    subst hx
    exact ⟨a, nodes.length, q, rfl, rfl, up hq, by simp⟩
/-- the trie at block g; X: blocks that are none of its own -/
def TrieAt (tt tl ti : TypeId) (w : World) (B g : Nat) (X : Nat → Prop) (A : Option Addr) (c : Nat) (rules : List TR) (nodes : List (List Int)) : Prop :=
  ∃ (mb : Nat) (Al : Option Addr) (cl : Nat) (m : List ((Int × Int) × Int)) (vs : List Value),
    Blk w g tt #[.slice A rules.length c, .map (some mb), .slice Al nodes.length cl] ∧ MapAt w mb m ∧ w.ownsRow B tl 1 (.slice Al nodes.length cl) nodes.length vs ∧
    NodesV ti w X rules vs nodes ∧ LinksV m nodes ∧ nodes[0]? = some [] ∧ (B ≤ g ∧ B ≤ mb) ∧ ¬ X g ∧ ¬ X mb ∧ ∀ a, Al = some a → ¬ X a.block
section
variable {tt tl ti : TypeId} {w w' : World} {B g c : Nat} {X X' : Nat → Prop} {A : Option Addr} {rules : List TR} {nodes : List (List Int)}
theorem own_keepX {base e size n : Nat} {v : Value} {xs : List Value} (h : w.ownsRow base e size v n xs) (hk : ∀ x, v.ownBlock = some x → x < w.heap.size → w'.heap[x]? = w.heap[x]?) : w'.ownsRow base e size v n xs := by
  refine ⟨h.1, ?_⟩
  rcases h.2 with h' | ⟨g, cap, cur, hv, hb, hh, h'⟩
  · exact .inl h'
  · refine .inr ⟨g, cap, cur, hv, hb, (hk g ?_ (Array.getElem?_eq_some_iff.1 hh).1).trans hh, h'⟩
    rw [hv]
    rfl
theorem own_lt {base e size n : Nat} {v : Value} {xs : List Value} (h : w.ownsRow base e size v n xs) : ∀ x, v.ownBlock = some x → base ≤ x ∧ x < w.heap.size ∧ ∃ cur, w.heap[x]? = some (.cells cur e (0, 0)) := by
  intro x hx
  rcases h.2 with ⟨rfl, _⟩ | ⟨g, cap, cur, rfl, hb, hh, _⟩
  · simp [Value.ownBlock] at hx
  · simp [Value.ownBlock] at hx
    subst hx
    exact ⟨hb, (Array.getElem?_eq_some_iff.1 hh).1, cur, hh⟩
theorem TrieAt.keep (h : TrieAt tt tl ti w B g X A c rules nodes) (hk : ∀ b, b < w.heap.size → ¬ X b → w'.heap[b]? = w.heap[b]?) : TrieAt tt tl ti w' B g X A c rules nodes := by
  obtain ⟨mb, Al, cl, m, vs, h1, h2, h3, h4, h5, h6, h7, h8, h9, h10⟩ := h
  refine ⟨mb, Al, cl, m, vs, (hk g h1.lt h8).trans h1, h2.keep (hk mb h2.lt h9), own_keepX h3 (fun x hx hl => hk x hl ?_), h4.keep (fun b cur fr hb hx => hk b (Array.getElem?_eq_some_iff.1 hb).1 hx), h5, h6, h7, h8, h9, h10⟩
  cases Al with
  | none => simp [Value.ownBlock] at hx
  | some a =>
    have := h10 a rfl
    simp [Value.ownBlock] at hx
    rwa [hx] at this
theorem TrieAt.newX (h : TrieAt tt tl ti w B g X A c rules nodes) (hx : ∀ x, X' x → w.heap.size ≤ x ∨ X x) : TrieAt tt tl ti w B g X' A c rules nodes := by
  obtain ⟨mb, Al, cl, m, vs, h1, h2, h3, h4, h5, h6, h7, h8, h9, h10⟩ := h
  refine ⟨mb, Al, cl, m, vs, h1, h2, h3, h4.newX hx, h5, h6, h7, fun h => ?_, fun h => ?_, fun a ha h => ?_⟩
  · rcases hx g h with h | h
    · have := h1.lt; omega
    · exact h8 h
  · rcases hx mb h with h | h
    · have := h2.lt; omega
    · exact h9 h
  · rcases hx a.block h with h | h
    · have hl := own_lt h3 a.block (by rw [ha]; rfl)
      omega
    · exact h10 a ha h
theorem TrieAt.below (h : TrieAt tt tl ti w B g X A c rules nodes) (hb : Below w.heap.size w w') : TrieAt tt tl ti w' B g X A c rules nodes := h.keep fun b hl _ => hb.block b hl
theorem own_ne_blk {base e size n : Nat} {v : Value} {xs : List Value} {t : TypeId} {cs : Array Value} (h : w.ownsRow base e size v n xs) (hb : Blk w g t cs) (ht : t ≠ e) : some g ≠ v.ownBlock := fun e' => by
  obtain ⟨_, _, cur, hc⟩ := own_lt h g e'.symm
  unfold Blk at hb
  rw [hb] at hc
  injection hc with hc
  injection hc with _ h2 _
  exact ht h2
theorem own_ne_map {base e size n mb : Nat} {v : Value} {xs : List Value} {m : List ((Int × Int) × Int)} (h : w.ownsRow base e size v n xs) (hm : MapAt w mb m) : some mb ≠ v.ownBlock := fun e' => by
  obtain ⟨_, _, cur, hc⟩ := own_lt h mb e'.symm
  obtain ⟨es, clock, hm, _⟩ := hm
  rw [hm] at hc
  cases hc
theorem blk_ne_map {t : TypeId} {cs : Array Value} {mb : Nat} {m : List ((Int × Int) × Int)} (hb : Blk w g t cs) (hm : MapAt w mb m) : g ≠ mb := fun e => by
  subst e
  obtain ⟨es, clock, hm, _⟩ := hm
  unfold Blk at hb
  rw [hm] at hb
  cases hb
/-- a node more -/
theorem TrieAt.grow (h1 : tt ≠ tl) (h2 : ti ≠ tl) (h3 : ti ≠ tt) {mb : Nat} {Al A5 A0 : Option Addr} {cl c5 c0 : Nat} {m : List ((Int × Int) × Int)} {vs : List Value} {n : Nat} {wr w5 w7 : World} {ob : Obj} {q : List Int} {node : Nat} {code : Int}
    (hn : nodes.length = n) (HG : Blk w g tt #[.slice A rules.length c, .map (some mb), .slice Al n cl]) (HM : MapAt w mb m) (H3 : w.ownsRow B tl 1 (.slice Al n cl) n vs) (H4 : NodesV ti w X rules vs nodes) (H5 : LinksV m nodes) (H6 : nodes[0]? = some [])
    (H7 : B ≤ g ∧ B ≤ mb) (H8 : ¬ X g) (H9 : ¬ X mb) (H10 : ∀ a, Al = some a → ¬ X a.block) (hX : ∀ x, X x → x < w.heap.size) (hq : nodes[node]? = some q)
    (hb : Below w.heap.size w wr) (hA0 : (alv rules (q ++ [code])).length ≤ c0) (hc0 : c0 ≤ maxLen) (hr : wr.ownsRow w.heap.size ti 1 (.slice A0 (alv rules (q ++ [code])).length c0) (alv rules (q ++ [code])).length (ints (natI (alv rules (q ++ [code])))))
    (g5 : (wr.alloc ob).grownBy w5 (Value.slice Al n cl).ownBlock) (o5 : w5.ownsRow B tl 1 (.slice A5 (n + 1) c5) (n + 1) (vs ++ [.slice A0 (alv rules (q ++ [code])).length c0]))
    (t5 : (Value.slice A5 (n + 1) c5).ownBlock = (Value.slice Al n cl).ownBlock ∨ (Value.slice A5 (n + 1) c5).ownBlock = some (wr.alloc ob).heap.size)
    (m7 : MapAt w7 mb (m ++ [(((node : Int), code), (n : Int))])) (g7 : (w5.setCell ⟨g, 2, none⟩ (.slice A5 (n + 1) c5)).grownBy w7 (some mb)) :
    TrieAt tt tl ti w7 B g X A c rules (nodes ++ [q ++ [code]]) ∧ Below B w w7 ∧ ∀ x, X x → w7.heap[x]? = w.heap[x]? := by
  have hBw : B ≤ w.heap.size := by have := HG.lt; omega
  have hsz := hb.size
  have hn1 : (nodes ++ [q ++ [code]]).length = n + 1 := by simp [hn]
  have K5 : ∀ x, x < wr.heap.size → some x ≠ (Value.slice Al n cl).ownBlock → w5.heap[x]? = wr.heap[x]? := fun x hx hne => by
    rw [g5.block x (by simp; omega) hne]
    exact Below.heap_alloc wr ob x hx
  have K6 : ∀ x, x ≠ g → (w5.setCell ⟨g, 2, none⟩ (.slice A5 (n + 1) c5)).heap[x]? = w5.heap[x]? := fun x hx => Below.heap_setCell w5 ⟨g, 2, none⟩ _ x hx
  have S5 : wr.heap.size ≤ w5.heap.size := by
    have := g5.size
    simp at this
    omega
  have K7 : ∀ x, x < wr.heap.size → some x ≠ (Value.slice Al n cl).ownBlock → x ≠ g → x ≠ mb → w7.heap[x]? = wr.heap[x]? := fun x hx h1 h2 h3 => by
    rw [g7.block x (by simp; omega) (fun e => h3 (by injection e)), K6 x h2, K5 x hx h1]
  have gb : some g ≠ (Value.slice Al n cl).ownBlock := own_ne_blk H3 HG h1
  have mbb : some mb ≠ (Value.slice Al n cl).ownBlock := own_ne_map H3 HM
  have gm : g ≠ mb := blk_ne_map HG HM
  have HGr : Blk wr g tt #[.slice A rules.length c, .map (some mb), .slice Al n cl] := HG.after hb
  have HG5 : Blk w5 g tt #[.slice A rules.length c, .map (some mb), .slice Al n cl] := (K5 g HGr.lt gb).trans HGr
  have HG6 := HG5.set_ 2 (.slice A5 (n + 1) c5)
  have HG7 : Blk w7 g tt #[.slice A rules.length c, .map (some mb), .slice A5 (nodes ++ [q ++ [code]]).length c5] := by
    rw [hn1]
    refine (g7.block g HG6.lt (fun e => gm (by injection e))).trans ?_
    exact HG6
  have KI : ∀ (b : Nat) (cur : Array Value) (fr : Nat × Nat), wr.heap[b]? = some (.cells cur ti fr) → w7.heap[b]? = wr.heap[b]? := by
    intro b cur fr hbk
    have hl := (Array.getElem?_eq_some_iff.1 hbk).1
    refine K7 b hl (fun e => ?_) (fun e => ?_) (fun e => ?_)
    · obtain ⟨_, hl2, cur2, hc2⟩ := own_lt H3 b e.symm
      rw [hb.block b hl2, hc2] at hbk
      injection hbk with hbk
      injection hbk with _ h _
      exact h2 h.symm
    · subst e
      unfold Blk at HGr
      rw [HGr] at hbk
      injection hbk with hbk
      injection hbk with _ h _
      exact h3 h.symm
    · subst e
      obtain ⟨es, clock, hm, _⟩ := HM
      rw [hb.block b (Array.getElem?_eq_some_iff.1 hm).1, hm] at hbk
      cases hbk
  have HV : NodesV ti w7 X rules (vs ++ [.slice A0 (alv rules (q ++ [code])).length c0]) (nodes ++ [q ++ [code]]) := by
    refine NodesV.snoc ?_ hA0 hc0 ?_
    · refine H4.keep fun b cur fr hbk _ => ?_
      have hl := (Array.getElem?_eq_some_iff.1 hbk).1
      have e := hb.block b hl
      rw [KI b cur fr (e.trans hbk), e]
    · exact (IntRow.of_own hr hX).keep fun b cur fr hbk _ => KI b cur fr hbk
  have HX : ∀ x, X x → w7.heap[x]? = w.heap[x]? := by
    intro x hx
    have hl := hX x hx
    rw [K7 x (by omega) (fun e => ?_) (fun e => H8 (e ▸ hx)) (fun e => H9 (e ▸ hx)), hb.block x hl]
    cases Al with
    | none => simp [Value.ownBlock] at e
    | some a =>
      simp [Value.ownBlock] at e
      exact H10 a rfl (e ▸ hx)
  refine ⟨⟨mb, A5, c5, m ++ [(((node : Int), code), (n : Int))], _, HG7, m7, ?_, HV, ?_, ?_, H7, H8, H9, ?_⟩, ?_, HX⟩
  · rw [hn1]
    refine own_keepX o5 fun x hx hl => ?_
    have hxg : x ≠ g := fun e => own_ne_blk o5 HG5 h1 (by rw [hx, e])
    have hxm : x ≠ mb := fun e => by
      subst e
      refine own_ne_map o5 (mb := x) (m := m) (HM.keep ?_) (by rw [hx])
      have hl2 := HM.lt
      rw [K5 x (by omega) mbb, hb.block x hl2]
    rw [g7.block x (by simpa using hl) (fun e => hxm (by injection e)), K6 x hxg]
  · rw [← hn]
    exact H5.snoc hq
  · rw [List.getElem?_append_left (List.getElem?_eq_some_iff.1 H6).1]
    exact H6
  · intro a ha
    subst ha
    rcases t5 with t5 | t5
    · cases Al with
      | none => simp [Value.ownBlock] at t5
      | some a' =>
        simp [Value.ownBlock] at t5
        rw [t5]
        exact H10 a' rfl
    · simp [Value.ownBlock] at t5
      intro hx
      have := hX _ hx
      omega
  · have b1 : Below B w wr := hb.mono hBw
    have b2 : Below B w (wr.alloc ob) := b1.alloc (by omega) _
    have b3 : Below B w w5 := b2.grown g5 (by simp; omega) (fun x hx => own_base H3 x hx)
    have b4 : Below B w (w5.setCell ⟨g, 2, none⟩ (.slice A5 (n + 1) c5)) := b3.setCell (p := ⟨g, 2, none⟩) H7.1 _
    exact b4.grown g7 (by simp; omega) (fun x hx => by injection hx with hx; omega)
/-- the trie that is made: one node -/
theorem TrieAt.new {wr w4 : World} {gb n : Nat} (hn : rules.length = n) (hm : n ≤ maxLen) (hb : Blk wr gb ti (ints (natI (List.range n))).toArray) (hB : B ≤ gb)
    (hw : w4 = ((wr.alloc (.map #[] 0)).alloc (.cells #[.slice (some ⟨gb, 0, none⟩) n n] tl)).alloc (.cells #[.slice A n c, .map (some wr.heap.size), .slice (some ⟨wr.heap.size + 1, 0, none⟩) 1 1] tt)) :
    TrieAt tt tl ti w4 B (wr.heap.size + 1 + 1) (fun _ => False) A c rules [[]] := by
  have hl := hb.lt
  have s1 : (wr.alloc (.map #[] 0)).heap.size = wr.heap.size + 1 := by simp
  have s2 : ((wr.alloc (.map #[] 0)).alloc (.cells #[.slice (some ⟨gb, 0, none⟩) n n] tl)).heap.size = wr.heap.size + 1 + 1 := by simp
  have hb4 : Blk w4 gb ti (ints (natI (List.range n))).toArray := by
    rw [hw]
    refine Blk.alloc (Blk.alloc ?_ _) _
    exact (Below.heap_alloc wr _ gb hl).trans hb
  have hm4 : MapAt w4 wr.heap.size [] := by
    refine (MapAt.new wr).keep ?_
    rw [hw, Below.heap_alloc _ _ _ (by rw [s2]; omega), Below.heap_alloc _ _ _ (by rw [s1]; omega)]
  have hr4 : Blk w4 (wr.heap.size + 1) tl #[.slice (some ⟨gb, 0, none⟩) n n] := by
    rw [hw]
    refine Blk.alloc ?_ _
    have := Blk.new (wr.alloc (.map #[] 0)) tl #[.slice (some ⟨gb, 0, none⟩) n n]
    rwa [s1] at this
  have ht4 : Blk w4 (wr.heap.size + 1 + 1) tt #[.slice A n c, .map (some wr.heap.size), .slice (some ⟨wr.heap.size + 1, 0, none⟩) 1 1] := by
    rw [hw]
    have := Blk.new ((wr.alloc (.map #[] 0)).alloc (.cells #[.slice (some ⟨gb, 0, none⟩) n n] tl)) tt #[.slice A n c, .map (some wr.heap.size), .slice (some ⟨wr.heap.size + 1, 0, none⟩) 1 1]
    rwa [s2] at this
  have hal : alv rules [] = List.range n := by rw [alv_nil, hn]
  refine ⟨wr.heap.size, some ⟨wr.heap.size + 1, 0, none⟩, 1, [], [.slice (some ⟨gb, 0, none⟩) n n], ?_, hm4, ⟨rfl, .inr ⟨wr.heap.size + 1, 1, _, rfl, by omega, hr4, Nat.le_refl _, by simp [maxLen], rfl, rfl⟩⟩, ⟨rfl, fun k q hq => ?_⟩, fun x hx => by simp at hx, rfl, ⟨by omega, by omega⟩, fun h => h, fun h => h, fun _ _ h => h⟩
  · rw [hn]
    exact ht4
  · have hk : k = 0 := by
      have := (List.getElem?_eq_some_iff.1 hq).1
      simpa using this
    subst hk
    simp at hq
    subst hq
    refine ⟨some ⟨gb, 0, none⟩, n, ?_, ?_, hm, fun _ => ⟨gb, 0, _, (0, 0), rfl, hb4, fun k v hk => ?_, fun h => h⟩⟩
    · rw [hal]
      simp
    · rw [hal]
      simp
    · rw [hal] at hk
      simpa using hk
theorem TrieAt.base (h : TrieAt tt tl ti w B g X A c rules nodes) : B ≤ g ∧ g < w.heap.size ∧ B ≤ w.heap.size := by
  obtain ⟨mb, Al, cl, m, vs, h1, h2, h3, h4, h5, h6, h7, h8, h9, h10⟩ := h
  have := h1.lt
  exact ⟨h7.1, this, by omega⟩
end
end Go.UtYtjohoohdjlajcaa
