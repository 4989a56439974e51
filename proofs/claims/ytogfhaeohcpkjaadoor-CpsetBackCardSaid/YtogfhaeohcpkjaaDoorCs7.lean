/-
  cpset.cursor and the function that it returns: walks.
-/
import Derived.Test.YtogfhaeohcpkjaaDoorProg
import Derived.Test.YtogfhaeohcpkjaaDoorBase
import Derived.Test.YtogfhaeohcpkjaaDoorApp
import Derived.Test.YtogfhaeohcpkjaaDoorCs6
import Derived.Test.YtogfhaeohcpkjaaDoorTree
import Derived.Laws.OwnMore
import Derived.WalkKit
import Derived.Deep.QuietTactic
import Derived.BigQuiet
import Derived.KernelRfl
import Derived.Outline
import Derived.IntWalk
namespace Go.Proofs.YtogfhaeohcpkjaaDoor
open Go.RowKit Go.UtYtogfhaeohcpkjaaDoor
theorem can_at {lo : Int} {l : List Rg} (h : CanFrom lo l) {k : Nat} {s : Rg} (hk : l[k]? = some s) : lo ≤ s.1 ∧ s.1 ≤ s.2 ∧ s.2 ≤ 1114111 := by
  induction l generalizing lo k with
  | nil => simp at hk
  | cons a l ih =>
    obtain ⟨h1, h2, h3, h4⟩ := h
    cases k with
    | zero => simp at hk; subst hk; exact ⟨h1, h2, h3⟩
    | succ k =>
      have := ih h4 (k := k) (by simpa using hk)
      exact ⟨by omega, this.2⟩
theorem can_lt {lo : Int} {l : List Rg} (h : CanFrom lo l) {i k : Nat} {a b : Rg} (hik : i < k) (hi : l[i]? = some a) (hk : l[k]? = some b) : a.2 + 2 ≤ b.1 := by
  induction l generalizing lo i k with
  | nil => simp at hk
  | cons c l ih =>
    obtain ⟨h1, h2, h3, h4⟩ := h
    cases k with
    | zero => omega
    | succ k =>
      simp at hk
      cases i with
      | zero =>
        simp at hi
        subst hi
        exact (can_at h4 hk).1
      | succ i =>
        simp at hi
        exact ih h4 (by omega) hi hk
def CurOut (r : List Rg) (x : Int) (b : Bool) (h : Int) : Prop := decide (hasP r x) = b ∧ x ≤ h ∧ h ≤ 1114111 ∧ ∀ y, x ≤ y → y ≤ h → (hasP r y ↔ hasP r x)
theorem mem_at {r : List Rg} {y : Int} : memR r y ↔ ∃ (i : Nat) (a : Rg), r[i]? = some a ∧ a.1 ≤ y ∧ y ≤ a.2 := by
  constructor
  · rintro ⟨a, ha, h⟩
    obtain ⟨i, hi, e⟩ := List.getElem_of_mem ha
    exact ⟨i, a, e ▸ List.getElem?_eq_getElem hi, h⟩
  · rintro ⟨i, a, ha, h⟩
    exact ⟨a, List.mem_of_getElem? ha, h⟩
theorem cur_end {r : List Rg} {x : Int} (hx : 0 ≤ x ∧ x ≤ 1114111) (h : ∀ (i : Nat) (a : Rg), i < r.length → r[i]? = some a → a.2 < x) : CurOut r x false 1114111 := by
  have hn : ∀ y, x ≤ y → ¬ hasP r y := by
    rintro y hy ⟨-, hm⟩
    obtain ⟨i, a, ha, h1, h2⟩ := mem_at.1 hm
    have := h i a (List.getElem?_eq_some_iff.1 ha).1 ha
    omega
  exact ⟨decide_eq_false (hn x (Int.le_refl _)), hx.2, Int.le_refl _, fun y hy _ => ⟨fun h => absurd h (hn y hy), fun h => absurd h (hn x (Int.le_refl _))⟩⟩
theorem cur_off {r : List Rg} {x : Int} {k : Nat} {s : Rg} (hc : Cnn r) (_hx : 0 ≤ x ∧ x ≤ 1114111) (hk : r[k]? = some s) (h : ∀ (i : Nat) (a : Rg), i < k → r[i]? = some a → a.2 < x) (h1 : x < s.1) : CurOut r x false (s.1 - 1) := by
  have hs := can_at hc hk
  have hn : ∀ y, x ≤ y → y ≤ s.1 - 1 → ¬ hasP r y := by
    rintro y hy hy' ⟨-, hm⟩
    obtain ⟨i, a, ha, g1, g2⟩ := mem_at.1 hm
    rcases Nat.lt_trichotomy i k with g | rfl | g
    · have := h i a g ha
      omega
    · rw [hk] at ha
      cases ha
      omega
    · have := can_lt hc g hk ha
      omega
  exact ⟨decide_eq_false (hn x (Int.le_refl _) (by omega)), by omega, by omega, fun y hy hy' => ⟨fun h => absurd h (hn y hy hy'), fun h => absurd h (hn x (Int.le_refl _) (by omega))⟩⟩
theorem cur_on {r : List Rg} {x : Int} {k : Nat} {s : Rg} (hc : Cnn r) (_hx : 0 ≤ x ∧ x ≤ 1114111) (hk : r[k]? = some s) (h1 : ¬ x < s.1) (h2 : ¬ s.2 < x) : CurOut r x true s.2 := by
  have hs := can_at hc hk
  have hy : ∀ y, x ≤ y → y ≤ s.2 → hasP r y := fun y hy hy' => ⟨⟨by omega, by omega⟩, s, List.mem_of_getElem? hk, by omega, by omega⟩
  exact ⟨decide_eq_true (hy x (Int.le_refl _) (by omega)), by omega, hs.2.2, fun y g g' => ⟨fun _ => hy x (Int.le_refl _) (by omega), fun _ => hy y g g'⟩⟩
def idxAt (w : World) (g : Nat) : Nat := match w.cell? ⟨g, 0, none⟩ with | some v => (intOf v).toNat | none => 0
theorem grown_cell {w w' : World} {g : Nat} (h : w.grownBy w' (some g)) {p : Addr} (hp : p.block < w.heap.size) (hg : p.block ≠ g) : w'.cell? p = w.cell? p := by
  have e := h.block p.block hp (fun e => hg (Option.some.inj e))
  unfold World.cell?
  rw [e]
theorem grown_row {w w' : World} {g B : Nat} {A : Option Addr} {vs : List Value} (h : w.grownBy w' (some g)) (hr : Row w B A vs) (hB : B ≤ g) (hs : B ≤ w.heap.size) : Row w' B A vs :=
  hr.keep fun p hp => grown_cell h (by omega) (by omega)
theorem grown_refl (w : World) (row : Option Nat) : w.grownBy w row := ⟨rfl, rfl, rfl, Nat.le_refl _, fun _ _ _ => rfl⟩
theorem grown_set {w w' : World} {g : Nat} (h : w.grownBy w' (some g)) (i : Nat) (u : Value) : w.grownBy (w'.setCell ⟨g, i, none⟩ u) (some g) :=
  ⟨h.os, h.tape, h.output, by simpa using h.size, fun k hk hg => (Below.heap_setCell w' ⟨g, i, none⟩ u k (fun e => hg (by rw [e]))).trans (h.block k hk hg)⟩
theorem grown_drewN {w w' : World} {row : Option Nat} (h : w.grownBy w' row) (n : Nat) : w.grownBy (w'.drewN n) row := ⟨h.os, h.tape, h.output, h.size, h.block⟩
/-- What a cursor's function leaves: the answer at x, and the index from which the next call looks. -/
def CurPost (gi : Nat) (r : List Rg) (x : Int) (w : World) (e : Ending) (w' : World) : Prop :=
  ∃ (b : Bool) (h : Int) (k : Nat), e = .returned (.tuple #[.bool b, .int .i64 h]) ∧ CurOut r x b h ∧ k ≤ r.length ∧ (∀ (i : Nat) (a : Rg), i < k → r[i]? = some a → a.2 < x) ∧ Blk w' gi 3 #[.int .i64 (k : Int)] ∧ w.grownBy w' (some gi)
set_option maxRecDepth 100000 in
set_option maxHeartbeats 1000000 in
theorem cursor1_any (gi gl : Nat) (A : Option Addr) (B cl : Nat) (r : List Rg) (x : Int) (j : Nat) (w : World) (hi : Blk w gi 3 #[.int .i64 (j : Int)]) (hl : Blk w gl 22 #[.slice A r.length cl]) (hne : gl ≠ gi)
    (hR : Row w B A (rgs r)) (hB : B ≤ gi) (hm : r.length ≤ 1099511627776) (hj : j ≤ r.length) (hc : Cnn r) (hx : 0 ≤ x ∧ x ≤ 1114111) (hlow : ∀ (i : Nat) (a : Rg), i < j → r[i]? = some a → a.2 < x) :
    Calls Tryd.prog 76 #[.int .i64 x, .pointer (some ⟨gi, 0, none⟩), .pointer (some ⟨gl, 0, none⟩)] w (CurPost gi r x w) := by
  have hBs : B ≤ w.heap.size := by have := hi.lt; omega
  have HR := Lib.hid hR
  have HI := Lib.hid hi
  have HL := Lib.hid hl
  have HC := Lib.hid hc
  have HX := Lib.hid hx
  have HLW := Lib.hid hlow
  clear hR hi hl hc hx hlow
  go_enter Tryd.func76, Tryd.ntmps76
  go_wp2
  go_loopw [6] (fun _ wr => ∃ k : Nat, k ≤ r.length ∧ Hid (∀ (i : Nat) (a : Rg), i < k → r[i]? = some a → a.2 < x) ∧ Hid (Blk wr gi 3 #[.int .i64 (k : Int)]) ∧ Hid (w.grownBy wr (some gi))) (fun _ wr => r.length - idxAt wr gi)
  case atStart => exact ⟨j, hj, HLW, HI, grown_refl _ _⟩
  case round =>
    obtain ⟨k, hk, HK, HI', HG⟩ := hrel
    have c0 := HI'.out.cell 0
    have f0 := HI'.out.free 0
    have cl0 : wr.cell? ⟨gl, 0, none⟩ = some (.slice A r.length cl) := (grown_cell HG.out (p := ⟨gl, 0, none⟩) HL.out.lt hne).trans (HL.out.cell 0)
    simp at c0
    by_cases h1 : k < r.length
    · obtain ⟨b, o, lo, hi, rfl, hb, hx, c1, c2⟩ := at_rg (grown_row HG.out HR.out hB hBs) h1
      have hs := can_at HC.out hx.out
      by_cases h2 : hi < x
      · have HK' : Hid (∀ (i : Nat) (a : Rg), i < k + 1 → r[i]? = some a → a.2 < x) := by
          intro i a hik ha
          by_cases e : i = k
          · subst e
            rw [hx.out] at ha
            cases ha
            exact h2
          · exact HK.out i a (by omega) ha
        have HI2 : Hid (Blk (wr.setCell ⟨gi, 0, none⟩ (.int .i64 ((k : Int) + 1))) gi 3 #[.int .i64 ((k + 1 : Nat) : Int)]) := by
          have := HI'.out.set_ 0 (.int .i64 ((k : Int) + 1))
          show Blk _ _ _ _
          simpa using this
        have HID : Hid (idxAt (wr.setCell ⟨gi, 0, none⟩ (.int .i64 ((k : Int) + 1))) gi = k + 1) := by
          have := HI2.out.cell 0
          simp at this
          show _ = _
          unfold idxAt
          rw [this]
          simp [intOf]
        have HID0 : Hid (idxAt wr gi = k) := by
          show _ = _
          unfold idxAt
          rw [c0]
          simp [intOf]
        go_wp2
        go_roundw
        case rel => exact ⟨k + 1, by omega, HK', HI2, grown_set HG.out _ _⟩
        case measure => rw [HID.out, HID0.out]; omega
      · by_cases h3 : x < lo
        · have HE : Hid (CurOut r x false (lo - 1)) := cur_off HC.out HX.out hx.out HK.out h3
          go_wp2
          go_quiet (fail)
          go_wp2
          go_ret2
          exact ⟨false, lo - 1, k, rfl, HE.out, hk, HK.out, HI'.out, grown_drewN HG.out _⟩
        · have HE : Hid (CurOut r x true hi) := cur_on HC.out HX.out hx.out h3 h2
          go_wp2
          go_quiet (fail)
          go_wp2
          go_ret2
          exact ⟨true, hi, k, rfl, HE.out, hk, HK.out, HI'.out, grown_drewN HG.out _⟩
    · obtain rfl : k = r.length := by omega
      have HE : Hid (CurOut r x false 1114111) := cur_end HX.out HK.out
      go_wp2
      go_ret2
      exact ⟨false, 1114111, r.length, rfl, HE.out, hk, HK.out, HI'.out, HG.out⟩
theorem run_field_set (w : World) (v : Value) : (Instr.field 24 (.agg #[v]) 0).run Tryd.prog w = .ok v w := by
  have h1 := Tryd.underlying24
  have h2 := Tryd.isAgg22
  simp [Instr.field, run_underlying h1, part, h2, asAgg, go_sem]
/-- A cursor in memory: its index lies in block gi, its ranges (the valid set r) in block gl; both blocks are new (at or above N). -/
structure CurAt (w : World) (N gi gl : Nat) (r : List Rg) (j : Nat) : Prop where
  new1 : N ≤ gi
  new2 : N ≤ gl
  lt : gl < gi
  idx : Blk w gi 3 #[.int .i64 (j : Int)]
  rows : ∃ A cl, Blk w gl 22 #[.slice A r.length cl] ∧ Row w gl A (rgs r)
  can : Cnn r
  le : j ≤ r.length
theorem CanFrom.len {lo : Int} {l : List Rg} (h : CanFrom lo l) (h0 : 0 ≤ lo) : (l.length : Int) ≤ max 0 (1114112 - lo) := by
  induction l generalizing lo with
  | nil => simp; omega
  | cons a l ih =>
    obtain ⟨h1, h2, h3, h4⟩ := h
    have := ih h4 (by omega)
    simp only [List.length_cons]
    omega
theorem can_len {l : List Rg} (h : Cnn l) : l.length ≤ 1114112 := by
  have := CanFrom.len h (Int.le_refl 0)
  omega
set_option maxRecDepth 100000 in
set_option maxHeartbeats 1000000 in
theorem cursor_any (A : Option Addr) (c : Nat) (l : List Rg) (w : World) (hR : Row w w.heap.size A (rgs l)) (hm : l.length ≤ 1099511627776) :
    Calls Tryd.prog 62 #[.agg #[.slice A l.length c]] w fun e w' => ∃ gi gl r, e = .returned (.func (.func 76) #[] #[.pointer (some ⟨gi, 0, none⟩), .pointer (some ⟨gl, 0, none⟩)]) ∧ (∀ x, hasP r x ↔ hasP l x) ∧ CurAt w' w.heap.size gi gl r 0 ∧ Below w.heap.size w w' := by
  obtain ⟨w1, h1, HB1, HR1⟩ : ∃ w1, w1 = w.alloc (.cells #[.slice A l.length c] 24) ∧ Hid (Below w.heap.size w w1) ∧ Hid (Row w1 w1.heap.size A (rgs l)) := ⟨_, rfl, (Below.refl _ _).alloc (Nat.le_refl _) _, (hR.below ((Below.refl _ _).alloc (Nat.le_refl _) _)).lt⟩
  have y0 : w1.cell? ⟨w.heap.size, 0, none⟩ = some (.slice A l.length c) := by rw [h1]; exact (Blk.new w _ _).cell 0
  clear hR
  have qF := run_field_set
  go_enter Tryd.func62, Tryd.ntmps62
  go_wp2_with (first | (go_at_call 23; rw [← h1]; clear h1; refine (make_any _ _ _ _ HR1.out hm).mono ?_; rintro e w2 ⟨A2, c2, r, rfl, hc, hh, hrow, hbel⟩))
  go_ret
  have hb2 : Below w.heap.size w w2 := HB1.out.trans (hbel.mono HB1.out.size)
  have hs2 := hb2.size
  refine ⟨w2.heap.size + 1, w2.heap.size, r, rfl, hh, ⟨by omega, hs2, by omega, ?_, ⟨A2, c2, (Blk.new w2 _ _).alloc _, hrow.below (((Below.refl _ _).alloc (Nat.le_refl _) _).alloc (by simp) _)⟩, hc, by omega⟩, (hb2.alloc hs2 _).alloc (by simp; omega) _⟩
  have := Blk.new (w2.alloc (.cells #[.slice A2 r.length c2] 22)) 3 #[.int .i64 0]
  simpa using this
end Go.Proofs.YtogfhaeohcpkjaaDoor
