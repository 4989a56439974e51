/-
  slices.SortFunc at ranges: what Make's sort leaves in its own slice.
-/
import Derived.Test.YtjohoohdjlajcaaProg
import Derived.Test.YtjohoohdjlajcaaBase
import Derived.Test.YtjohoohdjlajcaaCs4
import Derived.Test.YtjohoohdjlajcaaSrt
import Derived.Shelf.SlSortCmp.WholeK
import Derived.WalkKit
import Derived.KernelRfl
import Derived.Outline
import Derived.IntWalk
namespace Go.Proofs.Ytjohoohdjlajcaa
open Go.RowKit Go.UtYtjohoohdjlajcaa Go.Shelf Go.Sort
theorem grow_of_below {W w' : World} (h : Below W.heap.size W w') (hd : W.drawn ≤ w'.drawn) : ∃ q os, w' = grow (W.drewN q) os := by
  refine ⟨w'.drawn - W.drawn, w'.heap.extract W.heap.size w'.heap.size, ?_⟩
  obtain ⟨h1, h2, h3, h4, h5⟩ := h
  cases w'
  cases W
  simp only [grow, World.drewN] at *
  subst h1 h2 h3
  congr
  · apply Array.ext_getElem?
    intro i
    rw [Array.getElem?_append]
    split
    · rename_i hi
      exact h5 i hi
    · rename_i hi
      rw [Array.getElem?_extract]
      split
      · congr 1; omega
      · rw [Array.getElem?_eq_none (by omega)]
  · omega
def encR (x : Rg) : List Value := [.int .i64 x.1, .int .i64 x.2]
theorem cmp3_lt (x y : Int) : cmp3 x y < 0 ↔ x < y := by
  unfold cmp3
  split
  · omega
  · split <;> omega
theorem cmp3_zero (x y : Int) : cmp3 x y = 0 ↔ x = y := by
  unfold cmp3
  split
  · omega
  · split <;> omega
theorem cmpR_lt (x y : Rg) : cmpR x y < 0 ↔ x.1 < y.1 ∨ (x.1 = y.1 ∧ x.2 < y.2) := by
  have h1 := cmp3_lt x.1 y.1
  have h2 := cmp3_zero x.1 y.1
  have h3 := cmp3_lt x.2 y.2
  unfold cmpR
  split <;> omega
theorem ltR (x y : Rg) : ltOf cmpR x y = decide (x.1 < y.1 ∨ (x.1 = y.1 ∧ x.2 < y.2)) := by
  unfold ltOf
  exact decide_eq_decide.2 (cmpR_lt x y)
theorem swoR : SWO (ltOf cmpR) where
  irrefl x := by rw [ltR]; simp
  trans x y z h1 h2 := by rw [ltR, decide_eq_true_iff] at *; omega
  ntrans x y z h1 h2 := by rw [ltR, decide_eq_false_iff_not] at *; omega
theorem flat_eq (d : Array Rg) : flatK encR 2 d = (rgs d.toList).toArray := by
  apply Array.ext_getElem?
  intro i
  by_cases hi : i < d.size * 2
  · have hk : i / 2 < d.size := by omega
    have e1 : d.toList[i / 2]? = some d[i / 2] := by rw [Array.getElem?_toList, Array.getElem?_eq_getElem hk]
    obtain ⟨g1, g2⟩ := rgs_get e1
    have hl : (flatK encR 2 d)[i]? = some ((encR d[i / 2]!)[i % 2]!) := by
      simp only [flatK, Array.getElem?_map, Array.getElem?_range, hi, if_true, Option.map_some]
    rw [hl, getElem!_pos d _ hk]
    rcases (show i % 2 = 0 ∨ i % 2 = 1 by omega) with h | h
    · rw [show i / 2 * 2 = i by omega] at g1
      rw [h, List.getElem?_toArray, g1]
      rfl
    · rw [show i / 2 * 2 + 1 = i by omega] at g2
      rw [h, List.getElem?_toArray, g2]
      rfl
  · rw [Array.getElem?_eq_none (by simp [flatK]; omega), Array.getElem?_eq_none (by simp [rgs_len]; omega)]
theorem cmpLays (blk off size : Nat) (w : World) : CmpLays Try.prog 63 #[] encR 2 cmpR blk off size w := by
  intro m os dk _ x y
  refine Calls.mono (cmpR_any x y _ _ rfl) ?_
  rintro e w' ⟨rfl, h1, h2⟩
  exact ⟨rfl, grow_of_below h1 h2⟩
theorem put_take (d : Array Value) (cur : Array Value) (h : d.size ≤ cur.size) : (putCells id 0 d cur).toList.take d.size = d.toList := by
  apply List.ext_getElem?
  intro i
  rw [List.getElem?_take]
  by_cases hi : i < d.size
  · rw [if_pos hi, Array.getElem?_toList, Array.getElem?_toList]
    simp only [putCells, Array.getElem?_mapIdx]
    rw [Array.getElem?_eq_getElem (show i < cur.size by omega), Array.getElem?_eq_getElem hi, Option.map_some, if_pos ⟨by omega, by omega⟩, getElem!_pos d _ (by omega)]
    simp
  · rw [if_neg hi, List.getElem?_eq_none (by simp; omega)]
theorem sort_own {base n c : Nat} {A : Option Addr} {l l' : List Rg} {w w' : World} {g : Nat} {m : Nat} {os : Array Obj} (hA : A = some ⟨g, 0, none⟩) (ho : w.ownsRow base 71 2 (.slice A n c) n (rgs l)) (hl : l'.length = l.length)
    (hw : w' = sortWorldK encR 2 w g 0 m l'.toArray os) : w'.ownsRow base 71 2 (.slice A n c) n (rgs l') ∧ Below base w w' := by
  subst hA
  obtain ⟨h1, h⟩ := ho
  rcases h with ⟨h, _⟩ | ⟨g', cap, cur, hv, hb, hg, hc, hm, hs, ht⟩
  · cases h
  · injection hv with e1 e2 e3
    injection e1 with e1
    injection e1 with e1
    subst e1 e3
    have hn : n = l.length := by rw [rgs_len] at h1; omega
    have hgs : g < w.heap.size := (Array.getElem?_eq_some_iff.1 hg).1
    have hgr : w'.heap[g]? = some (.cells (putCells id 0 (rgs l').toArray cur) 71 (0, 0)) := by
      rw [hw]
      simp only [sortWorldK, putRowK, putRow, mapBlock, grow, Sort.ahead, flat_eq]
      rw [Array.getElem?_append_left (by simpa using hgs), Array.getElem?_modify, if_pos rfl, hg]
      rfl
    have hsz : (rgs l').toArray.size = n * 2 := by simp [rgs_len]; omega
    refine ⟨⟨by rw [rgs_len]; omega, Or.inr ⟨g, c, _, rfl, hb, hgr, hc, hm, ?_, ?_⟩⟩, ?_⟩
    · simp [putCells, hs]
    · rw [← hsz, put_take _ _ (by rw [hsz, hs]; omega)]
    · rw [hw]
      refine ⟨rfl, rfl, rfl, ?_, ?_⟩
      · simp [sortWorldK, putRowK, putRow, mapBlock, grow, Sort.ahead]
      · intro k hk
        simp only [sortWorldK, putRowK, putRow, mapBlock, grow, Sort.ahead]
        rw [Array.getElem?_append_left (by simp; omega), Array.getElem?_modify, if_neg (by omega)]
theorem own_holdsR {base n c g : Nat} {l : List Rg} {w : World} (ho : w.ownsRow base 71 2 (.slice (some ⟨g, 0, none⟩) n c) n (rgs l)) : HoldsK encR 2 w g 0 l.toArray ∧ g < w.heap.size := by
  obtain ⟨h1, h⟩ := ho
  rcases h with ⟨h, _⟩ | ⟨g', cap, cur, hv, hb, hg, hc, hm, hs, ht⟩
  · cases h
  · injection hv with e1 e2 e3
    injection e1 with e1
    injection e1 with e1
    subst e1 e3
    refine ⟨?_, (Array.getElem?_eq_some_iff.1 hg).1⟩
    have hB : Blk w g 71 cur := hg
    unfold HoldsK
    rw [flat_eq]
    intro j hj
    rw [Nat.zero_add]
    refine ⟨?_, hB.free j⟩
    rw [hB.cell j]
    have hj' : j < (rgs l).length := by simpa using hj
    have : cur.toList[j]? = ((rgs l)[j]? : Option Value) := by
      rw [← ht, List.getElem?_take, if_pos (by omega)]
    rw [← Array.getElem?_toList, this, List.getElem?_eq_getElem hj', getElem!_pos (rgs l).toArray j hj]
    simp
theorem perm_in {l : List Rg} {d : Array Rg} (h : PermIn 0 l.toArray.size l.toArray d) : d.toList.Perm l ∧ d.toList.length = l.length := by
  obtain ⟨h1, _, h2⟩ := h
  have e : d.extract 0 l.toArray.size = d := by rw [← h1]; simp
  rw [e] at h2
  have e' : l.toArray.extract 0 l.toArray.size = l.toArray := by simp
  rw [e'] at h2
  exact ⟨by simpa using h2, by simpa using h1⟩
theorem sorted_in {n : Nat} {d : Array Rg} (hn : n = d.size) (h : SortedIn (ltOf cmpR) 0 n d) : Srt d.toList := by
  intro i j x y hij hx hy
  rw [Array.getElem?_toList] at hx hy
  have hj : j < d.size := (Array.getElem?_eq_some_iff.1 hy).1
  have := h i j (by omega) hij (by omega)
  rw [ltR, getElem!_pos d i (by omega), getElem!_pos d j hj, decide_eq_false_iff_not] at this
  rw [Array.getElem?_eq_getElem (by omega)] at hx hy
  cases hx
  cases hy
  omega
theorem ins_nil (w : World) (v : Value) : Calls Try.prog 73 #[.slice none 0 0, .int .i64 0, .int .i64 0, v] w fun e w' => e = .returned (.tuple #[]) ∧ w = w' := by
  go_enter Try.func73, Try.ntmps73
  go_wp2
  go_loopw [8] (fun i wr => i = .int .i64 1 ∧ wr = w) (fun _ _ => 0)
  case atStart => exact ⟨rfl, rfl⟩
  case round =>
    obtain ⟨rfl, rfl⟩ := hrel
    go_wp2
    go_end0
    exact ⟨rfl, rfl⟩
theorem pdq_nil (w : World) (k : Int) (v : Value) : Calls Try.prog 69 #[.slice none 0 0, .int .i64 0, .int .i64 0, .int .i64 k, v] w fun e w' => e = .returned (.tuple #[]) ∧ w = w' := by
  go_enter Try.func69, Try.ntmps69
  go_wp2
  go_loopw [1, 2] (fun a b wr => a = .int .i64 0 ∧ b = .int .i64 0 ∧ wr = w) (fun _ _ _ => 0)
  case atStart => exact ⟨rfl, rfl, rfl⟩
  case round =>
    obtain ⟨rfl, rfl, rfl⟩ := hrel
    go_wp2_with (first | (go_at_call 73; refine (ins_nil _ _).mono ?_; rintro e w' ⟨rfl, rfl⟩))
    (try simp only [Exit.inBlock, Exit.then])
    refine bodyPost_ret (results_none rfl _ _ _) rfl ?_
    exact ⟨rfl, rfl⟩
theorem bits_len0 (w : World) : Calls Try.prog 70 #[.int .u64 0] w fun e w' => e = .returned (.int .i64 0) ∧ w = w' := by
  have h := Any.bits_Len (SlLaysF0.n15.bits (P := Try.prog) (ρ := Try.sortRg_ren) { Try.sortRg with }) 0 w (by omega) (by omega)
  exact h.mono fun _ _ ⟨he, hw⟩ => ⟨he, hw.symm⟩
theorem sort_nil (w : World) (v : Value) : Calls Try.prog 62 #[.slice none 0 0, v] w fun e w' => e = .returned (.tuple #[]) ∧ w = w' := by
  go_enter Try.func62, Try.ntmps62
  go_wp2_with (first | (go_at_call 70; refine (bits_len0 _).mono ?_; rintro e w' ⟨rfl, rfl⟩) | (go_at_call 69; refine (pdq_nil _ _ _).mono ?_; rintro e w' ⟨rfl, rfl⟩))
  go_end0
  exact ⟨rfl, rfl⟩
theorem sortR_any (base n c : Nat) (A : Option Addr) (l : List Rg) (w : World) (ho : w.ownsRow base 71 2 (.slice A n c) n (rgs l)) (hm : n ≤ 4611686018427387900) :
    Calls Try.prog 62 #[.slice A n c, .func (.func 63) #[] #[]] w fun e w' => e = .returned (.tuple #[]) ∧ ∃ l' : List Rg, l'.Perm l ∧ Srt l' ∧ w'.ownsRow base 71 2 (.slice A n c) n (rgs l') ∧ Below base w w' := by
  have hn : n = l.length := by have := ho.1; rw [rgs_len] at this; omega
  cases A with
  | none =>
    obtain ⟨h1, h⟩ := ho
    rcases h with ⟨h, h0⟩ | ⟨g', cap, cur, hv, hb, hg, hc, hm, hs, ht⟩
    · injection h with _ e1 e2
      subst e1 e2
      have hl : l = [] := List.eq_nil_of_length_eq_zero hn.symm
      subst hl
      refine (sort_nil w _).mono ?_
      rintro e w' ⟨rfl, rfl⟩
      exact ⟨rfl, [], List.Perm.refl _, fun i j x y _ h => by simp at h, ⟨h1, Or.inl ⟨rfl, rfl⟩⟩, Below.refl _ _⟩
    · cases hv
  | some a =>
    obtain ⟨g, rfl⟩ : ∃ g, a = ⟨g, 0, none⟩ := by
      rcases ho.2 with ⟨h, _⟩ | ⟨g', cap, cur, hv, _⟩
      · cases h
      · injection hv with e1
        injection e1 with e1
        exact ⟨g', e1⟩
    obtain ⟨hH, hg⟩ := own_holdsR ho
    have eg : ∀ args w, (callFunc 63 args).run Try.prog w = .ok (.enter 63 args) w := enters_of Try.func63 (by kernel_rfl) rfl
    have hcon := AnyQ.slices_SortFunc Try.sortRg 2 Try.isAgg71 Try.sizeOf71 encR (fun _ => rfl) (fun x v hv => by simp [encR] at hv; rcases hv with rfl | rfl <;> rfl) cmpR swoR 63 #[] g 0 c l.toArray w eg (cmpLays g 0 l.toArray.size w) hH hg (by simp; omega)
    change Calls Try.prog 62 _ _ _ at hcon
    have hsz : l.toArray.size = n := by simp [hn]
    rw [hsz] at hcon
    refine hcon.mono ?_
    rintro e w' ⟨rfl, d, m, os, hp, hs, hw⟩
    rw [← hsz] at hp
    obtain ⟨p1, p2⟩ := perm_in hp
    obtain ⟨o1, o2⟩ := sort_own (l' := d.toList) rfl ho p2 hw
    exact ⟨rfl, d.toList, p1, sorted_in (by rw [← Array.length_toList, p2, hn]) hs, o1, o2⟩
end Go.Proofs.Ytjohoohdjlajcaa
