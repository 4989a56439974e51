/-
  Streams that have got an input: New, Write, Pending, Close in the words of what has been written so far.
-/
import Derived.Test.YtjohoohdjlajcaaSa0
namespace Go.Proofs.Ytjohoohdjlajcaa
open Go.RowKit Go.UtYtjohoohdjlajcaa
/-- over the input inp the steps have written out, and stand at p -/
def Got (D : List TR) (ah : Nat) (inp out : List Int) (p : Nat) : Prop := stS D inp ah 0 = (out, p)
/-- rules that a stream has, and numbers that fit them -/
def okS (D : List TR) (bf ah : Nat) : Prop := okD D bf ah ∧ ahR D ≤ ah
section
variable {D : List TR} {bf ah : Nat} {inp out : List Int} {p : Nat}
theorem okS.mat (h : okS D bf ah) : matOk D := by
  have := data_mat D
  rw [h.1.1] at this
  exact this
theorem okS.fit (h : okS D bf ah) : resFit D := by
  have := data_fit D
  rw [h.1.1] at this
  exact this
theorem okS.ok (h : okS D bf ah) : ∀ r ∈ D, chk1 r = 0 := by
  have := data_ok (l := D)
  rw [h.1.1] at this
  exact this
theorem okS.one (h : okS D bf ah) : 1 ≤ ah := h.1.2.2.2.2.1
theorem Got.nil (h : okS D bf ah) : Got D ah [] [] 0 := stS_stop (by have := h.one; simp; omega)
theorem Got.unique {out' : List Int} {p' : Nat} (h : Got D ah inp out p) (h' : Got D ah inp out' p') : out = out' ∧ p = p' := by
  have := h.symm.trans h'
  simpa using this
theorem Got.add (hk : okS D bf ah) (h : Got D ah inp out p) {y ro : List Int} {p' : Nat} (hR : stS D (inp ++ y) ah p = (ro, p')) : Got D ah (inp ++ y) (out ++ ro) p' := by
  have := stS_more hk.mat hk.fit hk.one hk.2 y 0 (Nat.zero_le inp.length)
  unfold Got at h ⊢
  rw [this, h]
  simp only
  rw [hR]
theorem Got.all (hk : okS D bf ah) (h : Got D ah inp out p) : outR D inp 0 = out ++ outR D inp p := by
  have := stS_out hk.mat hk.fit hk.one hk.2 [] 0 (Nat.zero_le inp.length)
  unfold Got at h
  rw [h] at this
  simpa using this
theorem Got.le (hk : okS D bf ah) (h : Got D ah inp out p) : p ≤ inp.length ∧ ¬ p + ah ≤ inp.length := by
  have := stS_le (inp := inp) hk.mat hk.one 0 (Nat.zero_le _)
  rw [h] at this
  exact this.2
theorem Got.len (hk : okS D bf ah) (h : Got D ah inp out p) : out.length ≤ 16 * inp.length := by
  have := stS_len hk.ok hk.one 0 (Nat.zero_le inp.length)
  rw [h] at this
  have h2 := (h.le hk).1
  simp only at this
  omega
end
theorem foldl_max_le {α : Type} (f : α → Nat) (m : Nat) : ∀ (l : List α) (a : Nat), a ≤ m → (∀ x ∈ l, f x ≤ m) → l.foldl (fun a r => max a (f r)) a ≤ m
  | [], _, h, _ => h
  | x :: l, a, h, hl => foldl_max_le f m l _ (by have := hl x (by simp); simp; omega) (fun y hy => hl y (by simp [hy]))
theorem bf_small {rules : List TR} (h : smB rules) : bfR rules ≤ 20 := foldl_max_le (fun r : TR => r.bef.length) 20 rules 0 (by omega) (fun r hr => (h.2 r hr).1.1)
theorem ah_small {rules : List TR} (h : smB rules) : ahR rules ≤ 40 := foldl_max_le (fun r : TR => r.ma.length) 40 rules 0 (by omega) (fun r hr => by
  have := (h.2 r hr).1
  unfold TR.ma
  simp only [List.length_append]
  omega)
theorem data_same {rules : List TR} (h : chkL rules = 0) : dataL rules = rules := by
  unfold dataL
  rw [if_pos h]
theorem okS_of {rules : List TR} (h : smB rules) (h0 : chkL rules = 0) : okS rules (bfR rules) (max (ahR rules) 1) := by
  have h1 := bf_small h
  have h2 := ah_small h
  exact ⟨⟨data_same h0, h.smR, Nat.le_refl _, by omega, by omega, by omega⟩, by omega⟩
/-- New: an error, or a stream without input -/
def RetNewG (w : World) (B : Nat) (rules : List TR) (e : Ending) (w' : World) : Prop :=
  (∃ x : Int, x ≠ 0 ∧ Hid (chkL rules = x) ∧ e = .returned (.tuple #[.pointer none, .int .i64 x]) ∧ Hid (Below w.heap.size w w')) ∨
    (∃ gs bf ah : Nat, e = .returned (.tuple #[.pointer (some ⟨gs, 0, none⟩), .int .i64 0]) ∧ Hid (w.heap.size ≤ gs ∧ gs < w'.heap.size) ∧ Hid (chkL rules = 0) ∧ Hid (okS rules bf ah) ∧ Hid (bfR rules = bf ∧ max (ahR rules) 1 = ah) ∧ Hid (∀ X : Nat → Prop, (∀ x, X x → x < w.heap.size) → StrAt w' (fun y => y = gs) X B gs rules bf ah [] 0) ∧ Hid (Below w.heap.size w w'))
theorem new_g (A : Option Addr) (c n B : Nat) (rules : List TR) (w : World) (hR : RulesAt w w.heap.size A rules) (hf : smB rules) (hn : rules.length = n) (hl : rules.length ≤ c) (hc : c ≤ maxLen) (hB : B ≤ w.heap.size) :
    Calls Try.prog 13 #[.slice A n c] w (RetNewG w B rules) := by
  subst hn
  refine (new_any A c rules w hR hf.smR (fun r hr => by have := (hf.2 r hr).1; omega) hl hc (by have := hf.1; omega)).mono ?_
  rintro e w2 ⟨hb2, hnew⟩
  rcases hnew with ⟨h0, rfl⟩ | ⟨h0, gs, B1, cr, Ar, rfl, g1, g2, g3, g4, g5, g6, g7⟩
  · exact .inl ⟨_, h0, rfl, rfl, hb2⟩
  · exact .inr ⟨gs, _, _, rfl, ⟨g1, by omega⟩, h0, okS_of hf h0, ⟨rfl, rfl⟩, fun X hX => str_new (by omega) g2 g3 g4 g5 g6 g7 (fun x hx => by have := hX x hx; omega), hb2⟩
def RetWG (w : World) (Y X : Nat → Prop) (B g : Nat) (D : List TR) (bf ah : Nat) (inp text out : List Int) (e : Ending) (w' : World) : Prop :=
  ∃ (A' : Option Addr) (n c' : Nat) (Y' : Nat → Prop) (ro : List Int) (p' : Nat), e = .returned (.tuple #[.slice A' n c', .int .i64 0]) ∧ n ≤ 160000 ∧ Hid (n ≤ c' ∧ c' ≤ maxLen) ∧ Hid (ro.length = n) ∧ Hid (Got D ah (inp ++ text) (out ++ ro) p') ∧
    Hid (Row (era w' (fun x => x < w.heap.size ∨ Y' x)) w'.heap.size A' (ints ro)) ∧ Hid (StrAt w' Y' X B g D bf ah (inp ++ text) p') ∧ Hid (Step w w' Y Y' B)
theorem write_g (Y X : Nat → Prop) (B g : Nat) (D : List TR) (bf ah : Nat) (inp text out : List Int) (p m : Nat) (At : Option Addr) (ct : Nat) (w : World) (hS : StrAt w Y X B g D bf ah inp p) (hX : ∀ x, X x → x < w.heap.size) (hD : okS D bf ah) (hT : Row w w.heap.size At (ints text)) (hm : text.length = m) (hl : inp.length + m ≤ 10000) (hG : Got D ah inp out p) :
    Calls Try.prog 14 #[.pointer (some ⟨g, 0, none⟩), .slice At m ct] w (RetWG w Y X B g D bf ah inp text out) := by
  subst hm
  obtain ⟨⟨ro, p'⟩, hR⟩ : ∃ R, stS D (inp ++ text) ah p = R := ⟨_, rfl⟩
  refine (write_any Y X B g D bf ah inp text p At ct w hS hX hD.1 hT hl (ro, p') hR).mono ?_
  rintro e w' ⟨A', c', Y', rfl, h1, h2, h3, h4, h5⟩
  have hg := hG.add hD hR
  have hlen := hg.len hD
  simp only [List.length_append] at hlen
  exact ⟨A', ro.length, c', Y', ro, p', rfl, by omega, ⟨h1, h2⟩, rfl, hg, h3, h4, h5⟩
def RetPG (w : World) (inp : List Int) (p : Nat) (e : Ending) (w' : World) : Prop :=
  ∃ (A' : Option Addr) (n c' : Nat), e = .returned (.slice A' n c') ∧ Hid (n = inp.length - p) ∧ n ≤ 10000 ∧ Hid (Row w' w'.heap.size A' (ints (inp.drop p))) ∧ Hid (Below w.heap.size w w')
theorem pend_g (Y X : Nat → Prop) (B g : Nat) (D : List TR) (bf ah : Nat) (inp : List Int) (p : Nat) (w : World) (hS : StrAt w Y X B g D bf ah inp p) (hl : inp.length ≤ 10000) :
    Calls Try.prog 20 #[.pointer (some ⟨g, 0, none⟩)] w (RetPG w inp p) := by
  refine (pend_any Y X B g D bf ah inp p w hS (by omega) _ rfl).mono ?_
  rintro e w' ⟨A', c', rfl, h1, h2⟩
  exact ⟨A', _, c', rfl, List.length_drop, by rw [List.length_drop]; omega, (ow_row h1).1, h2⟩
def RetCG (w : World) (B g : Nat) (D : List TR) (inp : List Int) (p : Nat) (e : Ending) (w' : World) : Prop :=
  ∃ (A' : Option Addr) (n c' : Nat) (ro : List Int), e = .returned (.tuple #[.slice A' n c', .int .i64 0]) ∧ n ≤ 160000 ∧ Hid (n ≤ c' ∧ c' ≤ maxLen) ∧ Hid (ro.length = n) ∧ Hid (outR D inp p = ro) ∧
    Hid (Row (era w' (· < w.heap.size)) w'.heap.size A' (ints ro)) ∧ Hid (Blk w' g 53 (strC none 0 0 0 none 0 0 0 0 false)) ∧ Hid (Below B w w') ∧ Hid (Fr w w' g)
theorem close_g (Y X : Nat → Prop) (B g : Nat) (D : List TR) (bf ah : Nat) (inp : List Int) (p : Nat) (w : World) (hS : StrAt w Y X B g D bf ah inp p) (hD : okS D bf ah) (hl : inp.length ≤ 10000) (hp : p ≤ inp.length) :
    Calls Try.prog 15 #[.pointer (some ⟨g, 0, none⟩)] w (RetCG w B g D inp p) := by
  refine (close_any Y X B g D bf ah inp p w hS hD.1 hl _ rfl).mono ?_
  rintro e w' ⟨A', c', rfl, h1, h2, h3, h4, h5, h6⟩
  have hlen : (outR D inp p).length ≤ 160000 := by
    have h7 := stS_len hD.ok (Nat.le_refl 1) p hp
    have h8 := stS_one hD.mat p hp
    rw [h8.1, h8.2] at h7
    omega
  exact ⟨A', _, c', _, rfl, hlen, ⟨h1, h2⟩, rfl, rfl, h3, h4, h5, h6⟩
section
variable {w w' w'' : World} {Y Y' X : Nat → Prop} {B g bf ah p : Nat} {D : List TR} {inp : List Int}
/-- a row of the law's own stays while the stream works -/
theorem own_step {base e size n : Nat} {v : Value} {xs : List Value} (ho : w.ownsRow base e size v n xs) (hs : StrAt w Y X B g D bf ah inp p) (hv : ∀ x, v.ownBlock = some x → X x) (hst : Step w w' Y Y' B) : w'.ownsRow base e size v n xs :=
  own_keepX ho (fun x hx hl => hst.2.2 x hl (fun hy => (hs.own x hy).2.2 (hv x hx)))
theorem StrAt.gY (hs : StrAt w Y X B g D bf ah inp p) : Y g := by
  obtain ⟨_, _, _, _, _, _, _, _, _, _, _, _, _, _, _, _, _, _, h14⟩ := hs
  exact (h14 g).2 (.inl rfl)
theorem own_fr {base e size n : Nat} {v : Value} {xs : List Value} (ho : w.ownsRow base e size v n xs) (hs : StrAt w Y X B g D bf ah inp p) (hv : ∀ x, v.ownBlock = some x → X x) (hst : Fr w w' g) : w'.ownsRow base e size v n xs :=
  own_keepX ho (fun x hx hl => hst.2 x hl (fun h => (hs.own g hs.gY).2.2 (hv g (h ▸ hx))))
/-- .. and rows of results, while a row of the law's own grows -/
theorem row_grown {A : Option Addr} {vs : List Value} {v : Value} {N : Nat} (h : Row (era w (fun x => x < N ∨ Y x)) w.heap.size A vs) (hg : w.grownBy w' v.ownBlock) (hv : ∀ x, v.ownBlock = some x → x < N) : Row w' w'.heap.size A vs :=
  Row.more (B := w.heap.size) (h.era_keep (E' := fun _ => False) (fun b hb hE => hg.block b hb (fun e => hE (.inl (hv b e.symm)))) (fun _ _ h => h.elim)).of_era hg.size
theorem row_grown' {A : Option Addr} {vs : List Value} {v : Value} {N : Nat} (h : Row (era w (· < N)) w.heap.size A vs) (hg : w.grownBy w' v.ownBlock) (hv : ∀ x, v.ownBlock = some x → x < N) : Row w' w'.heap.size A vs :=
  Row.more (B := w.heap.size) (h.era_keep (E' := fun _ => False) (fun b hb hE => hg.block b hb (fun e => hE (hv b e.symm))) (fun _ _ h => h.elim)).of_era hg.size
end
end Go.Proofs.Ytjohoohdjlajcaa
