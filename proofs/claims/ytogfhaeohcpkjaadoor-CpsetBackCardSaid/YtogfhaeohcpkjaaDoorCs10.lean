/-
  cpset.all and the function that it returns: its contract as an iterator.
-/
import Derived.RangeFuncNested
import Derived.RangeFuncBound
import Derived.RangeFuncCalls
import Derived.RangeFuncLeaves
import Derived.Shelf.Abstract
import Derived.Shelf.RegionOpen
import Derived.WalkKit
import Derived.OwnWalkIn
import Derived.TacticsInMore
import Derived.LoopNIn
import Derived.LoopIn
import Derived.KernelRfl
import Derived.Outline
import Derived.IntWalk
import Derived.Test.YtogfhaeohcpkjaaDoorProg
import Derived.Test.YtogfhaeohcpkjaaDoorOwn
import Derived.Test.YtogfhaeohcpkjaaDoorCs7
import Derived.Test.YtogfhaeohcpkjaaDoorCt1
namespace Go.Proofs.YtogfhaeohcpkjaaDoor
open Go.RowKit Go.Shelf Go.UtYtogfhaeohcpkjaaDoor
attribute [local go_sem] Oper.semAt_some
/-- a range within the code points -/
abbrev IRg := { r : Rg // inside r }
def encR1 (x : IRg) : Array Value := #[.agg #[.int .i64 x.1.1, .int .i64 x.1.2]]
/-- What a round keeps: the blocks that hold ranges. -/
def KpR (W W' : World) : Prop := W.heap.size ≤ W'.heap.size ∧ ∀ (g : Nat) (cs : Array Value) (fr : Nat × Nat), W.heap[g]? = some (.cells cs 37 fr) → W'.heap[g]? = W.heap[g]?
theorem KpR.trans {A B C : World} (h : KpR A B) (k : KpR B C) : KpR A C :=
  ⟨Nat.le_trans h.1 k.1, fun g cs fr hg => (k.2 g cs fr ((h.2 g cs fr hg).trans hg)).trans (h.2 g cs fr hg)⟩
theorem KpR.refl (A : World) : KpR A A := ⟨Nat.le_refl _, fun _ _ _ _ => rfl⟩
theorem KpR.book {w : World} (W : World) (l : Nat) (o o' : Obj) (_ : w.heap.size ≤ l) (h : W.heap[l]? = some o) (hc : o.isCells = false) (_ : o.isWalk = false) : KpR W (W.putObj l o') := by
  refine ⟨(grownBy_putObj' W l o').size, fun g cs fr hg => (grownBy_putObj' W l o').block g (Array.getElem?_eq_some_iff.1 hg).1 (fun e => ?_)⟩
  cases e
  rw [hg] at h
  cases h
  cases hc
theorem KpR.below {W W' : World} (h : Below W.heap.size W W') : KpR W W' := ⟨h.size, fun g _ _ hg => h.block g (Array.getElem?_eq_some_iff.1 hg).1⟩
theorem KpR.set {W W' : World} (h : KpR W W') {b t : Nat} {cs : Array Value} {fr : Nat × Nat} (hb : W'.heap[b]? = some (.cells cs t fr)) (ht : t ≠ 37) (i : Nat) (u : Value) : KpR W (W'.setCell ⟨b, i, none⟩ u) := by
  refine ⟨by simpa using h.1, fun g cs' fr' hg => ?_⟩
  have hg' := (h.2 g cs' fr' hg)
  refine (Below.heap_setCell W' ⟨b, i, none⟩ u g (fun e => ?_)).trans hg'
  simp only at e
  subst e
  rw [hb, hg] at hg'
  injection hg' with e
  injection e with e1 e2
  exact ht e2
theorem KpR.row {W W' : World} {base n : Nat} {v : Value} {xs : List Value} (h : KpR W W') (ho : W.ownsRow base 37 2 v n xs) : W'.ownsRow base 37 2 v n xs := by
  refine ⟨ho.1, ?_⟩
  rcases ho.2 with h' | ⟨g, cap, cur, hv, hb, hh, h'⟩
  · exact .inl h'
  · exact .inr ⟨g, cap, cur, hv, hb, (h.2 g _ _ hh).trans hh, h'⟩
theorem grown_of_below {W W' : World} (h : Below W.heap.size W W') : W.grownBy W' none := ⟨h.os, h.tape, h.output, h.size, fun k hk _ => h.block k hk⟩
theorem map_val {l : List Rg} (h : ∀ r ∈ l, inside r) : ∃ xs : List IRg, xs.map (·.1) = l := by
  induction l with
  | nil => exact ⟨[], rfl⟩
  | cons r l ih =>
    obtain ⟨xs, e⟩ := ih (fun s hs => h s (by simp [hs]))
    exact ⟨⟨r, h r (by simp)⟩ :: xs, by simp [e]⟩
set_option maxRecDepth 100000 in
set_option maxHeartbeats 1000000 in
theorem all1_in (n : Nat) (l Bn : Nat) (A : Option Addr) (c : Nat) (rs : List Rg) (J Jx : List IRg → World → Prop) (W : World) (hJ : AbidesFrom W.heap.size J)
    (hY : ∀ pre x W1, J pre W1 → pre.length < 1114113 → YieldAt Fence.wide (n - 1) Tryd.prog l (encR1 x) W1 fun e W' =>
      (e = .returned (.bool true) ∧ J (pre ++ [x]) W' ∧ KpR W1 W') ∨ (e = .returned (.bool false) ∧ Jx (pre ++ [x]) W'))
    (hBn : W.cell? ⟨Bn, 0, none⟩ = some (.slice A rs.length c)) (hR : Row W W.heap.size A (rgs rs)) (hm : rs.length ≤ 1099511627776) (h0 : J [] W) :
    CallsIn Fence.wide n Tryd.prog 63 #[.func (.yield l) #[] #[], .pointer (some ⟨Bn, 0, none⟩)] W fun e W' => (∃ v, e = .returned v) ∧
      ((∃ xs, (Cnn (xs.map (·.1)) ∧ ∀ x, hasP (xs.map (·.1)) x ↔ hasP rs x) ∧ J xs W') ∨ (∃ pre, (∃ (xs : List IRg), pre <+: xs ∧ Cnn (xs.map (·.1)) ∧ ∀ x, hasP (xs.map (·.1)) x ↔ hasP rs x) ∧ Jx pre W')) := by
  have HR := Lib.hid hR
  have HJ := Lib.hid hJ
  have HY := Lib.hid hY
  have H0 := Lib.hid h0
  clear hR hJ hY h0
  have qF := run_field_set
  refine callsIn_of_wp Tryd.func63 rfl trivial ?_ rfl
  simp only [Tryd.ntmps63, List.size_toArray, List.length_cons, List.length_nil, Nat.reduceAdd, Nat.reduceSub, Array.replicate_succ, Array.replicate_zero, List.push_toArray, List.append_toArray, List.nil_append, List.cons_append]
  gi_wp2_with (refine ⟨trivial, (fun h => by cases h), ?_⟩; refine (callsIn_wide.2 (make_own A c rs _ HR.out hm)).mono ?_; rintro e w2 ⟨A2, c2, r, rfl, hc, hh, ho, hb⟩)
  have HC := Lib.hid hc
  have HH := Lib.hid hh
  have HO := Lib.hid ho
  have HJ2 : Hid (J [] w2) := HJ.out [] W w2 none H0.out (grown_of_below hb) (fun r e => by cases e)
  have hsz := hb.size
  have hrl := can_len hc
  clear hc hh ho hb H0
  gi_loopw [10] (fun i wr => ∃ (k : Nat) (pre : List IRg), k ≤ r.length ∧ i = .int .i64 (k : Int) ∧ Hid (pre.map (·.1) = r.take k) ∧ Hid (J pre wr) ∧ Hid (wr.ownsRow (W.heap.size + 1) 37 2 (.slice A2 r.length c2) r.length (rgs r)) ∧ W.heap.size ≤ wr.heap.size) (fun i _ => r.length - (intOf i).toNat)
  case atStart => exact ⟨0, [], by omega, rfl, rfl, HJ2, HO, hsz⟩
  case round =>
    obtain ⟨k, pre, hk, rfl, HP, HJk, HOk, hsk⟩ := hrel
    by_cases h1 : k < r.length
    · obtain ⟨b, o, lo, hi, rfl, hb, hx, c1, c2'⟩ := at_rg (ow_row HOk.out).1 h1
      have hin := cnn_inside HC.out (lo, hi) (List.mem_of_getElem? hx.out)
      have HJk' : Hid (J pre (wr.alloc (.cells #[.int .i64 lo, .int .i64 hi] 37))) := HJ.out pre wr _ none HJk.out (World.grownBy_alloc wr _ none) (fun r e => by cases e)
      have hpl : pre.length < 1114113 := by
        have := congrArg List.length HP.out
        simp at this
        omega
      have HP' : Hid ((pre ++ [(⟨(lo, hi), hin⟩ : IRg)]).map (·.1) = r.take (k + 1)) := by
        show _ = _
        obtain ⟨hk', e⟩ := List.getElem?_eq_some_iff.1 hx.out
        rw [List.take_succ_eq_append_getElem hk', e, List.map_append, HP.out]
        rfl
      have HO' := Lib.hid (ow_alloc HOk.out (.cells #[.int .i64 lo, .int .i64 hi] 37))
      obtain ⟨fn, tmps, assign, body, hy, hRR⟩ := HY.out pre ⟨(lo, hi), hin⟩ _ HJk'.out hpl
      simp only [encR1] at hy
      gi_wp2
      refine ⟨(fun h => by cases h), ?_⟩
      refine hRR.mono ?_
      rintro e W3 (⟨rfl, hJ3, hk3⟩ | ⟨rfl, hJx3⟩)
      · have HJ3 := Lib.hid hJ3
        have HO3 := Lib.hid (hk3.row HO'.out)
        have hs3 := hk3.1
        simp at hs3
        clear hJ3 hk3
        gi_wp2
        go_roundw
        case rel => exact ⟨k + 1, _, by omega, by go_num, HP', HJ3, HO3, by omega⟩
        case measure => simp [intOf]; omega
      · have HJx := Lib.hid hJx3
        clear hJx3
        gi_wp2
        refine bodyPost_ret (results_none rfl _ _ _) rfl ?_
        refine ⟨⟨_, rfl⟩, .inr ⟨_, ?_, HJx.out⟩⟩
        obtain ⟨xs, hxs⟩ := map_val (cnn_inside HC.out)
        obtain ⟨ys, hys⟩ := map_val (l := r.drop (k + 1)) (fun s hs => cnn_inside HC.out s (List.mem_of_mem_drop hs))
        refine ⟨(pre ++ [(⟨(lo, hi), hin⟩ : IRg)]) ++ ys, ⟨ys, rfl⟩, ?_⟩
        rw [List.map_append, HP'.out, hys, List.take_append_drop]
        exact ⟨HC.out, HH.out⟩
    · obtain rfl : k = r.length := by omega
      rw [List.take_length] at HP
      gi_wp2
      go_end0
      refine ⟨⟨_, rfl⟩, .inl ⟨pre, ?_, HJk.out⟩⟩
      rw [HP.out]
      exact ⟨HC.out, HH.out⟩
theorem all_any (A : Option Addr) (n c : Nat) (w : World) : Calls Tryd.prog 47 #[.agg #[.slice A n c]] w fun e w' => e = .returned (.func (.func 63) #[] #[.pointer (some ⟨w.heap.size, 0, none⟩)]) ∧ w' = w.alloc (.cells #[.slice A n c] 24) := by
  go_enter Tryd.func47, Tryd.ntmps47
  go_wp2
  go_ret
  exact ⟨rfl, rfl⟩
def AllS (rs : List Rg) (xs : List IRg) : Prop := Cnn (xs.map (·.1)) ∧ ∀ x, hasP (xs.map (·.1)) x ↔ hasP rs x
def AllP (rs : List Rg) (pre : List IRg) : Prop := ∃ (xs : List IRg), pre <+: xs ∧ Cnn (xs.map (·.1)) ∧ ∀ x, hasP (xs.map (·.1)) x ↔ hasP rs x
theorem all_stops (n Bn : Nat) (A : Option Addr) (c : Nat) (rs : List Rg) (w : World) (hBn : Bn < w.heap.size) (hc : w.cell? ⟨Bn, 0, none⟩ = some (.slice A rs.length c)) (hR : Row w w.heap.size A (rgs rs)) (hm : rs.length ≤ 1099511627776) :
    SeqStopsK Fence.wide n Tryd.prog 63 #[.pointer (some ⟨Bn, 0, none⟩)] encR1 KpR (AllS rs) (AllP rs) 1114113 w := fun l J Jx W hW hJ _ hY h0 =>
  all1_in n l Bn A c rs J Jx W hJ hY ((hW.cell (p := ⟨Bn, 0, none⟩) hBn).trans hc) ((hR.below hW).lt) hm h0
end Go.Proofs.YtogfhaeohcpkjaaDoor
