/-
  cpset.Count, cpset.Nth: walks.
-/
import Derived.RangeFuncNested
import Derived.RangeFuncBound
import Derived.RangeFuncCalls
import Derived.RangeFuncLeaves
import Derived.Shelf.Abstract
import Derived.Shelf.RegionOpen
import Derived.WalkKit
import Derived.OwnWalkIn
import Derived.TacticsInMore
import Derived.LoopNIn
import Derived.LoopIn
import Derived.KernelRfl
import Derived.Outline
import Derived.IntWalk
import Derived.Test.YtogfhaeohcpkjaaDoorProg
import Derived.Test.YtogfhaeohcpkjaaDoorCs10
import Derived.Test.YtogfhaeohcpkjaaDoorCt0
namespace Go.Proofs.YtogfhaeohcpkjaaDoor
open Go.RowKit Go.Shelf Go.UtYtogfhaeohcpkjaaDoor
attribute [local go_sem] Oper.semAt_some
theorem cells_kept {X Y : World} {B : Nat} {row : Option Nat} {g : Nat} {cs : Array Value} {t : TypeId} {fr : Nat × Nat} (h : X.heap[g]? = some (.cells cs t fr)) (hg : X.grownBy Y row) (hr : ∀ r, row = some r → B ≤ r ∧ ∃ o : Obj, X.heap[r]? = some o ∧ o.isCells = false) : Y.heap[g]? = some (.cells cs t fr) := by
  refine (hg.block g (Array.getElem?_eq_some_iff.1 h).1 (fun e => ?_)).trans h
  obtain ⟨_, o, ho, hc⟩ := hr g e.symm
  rw [h] at ho
  cases ho
  cases hc
def cntI (pre : List IRg) : Int := cntR (pre.map (·.1))
theorem cntI_snoc (pre : List IRg) (x : IRg) : cntI (pre ++ [x]) = cntI pre + (x.1.2 - x.1.1 + 1) := by
  unfold cntI
  rw [List.map_append]
  exact cntR_snoc _ _
theorem cntI_bd (pre : List IRg) (h : pre.length < 1114113) : 0 ≤ cntI pre ∧ cntI pre ≤ 1241246523392 := by
  have := cntR_bd (l := pre.map (·.1)) (fun r hr => by obtain ⟨x, _, rfl⟩ := List.mem_map.1 hr; exact x.2)
  unfold cntI
  rw [List.length_map] at this
  omega
set_option maxRecDepth 100000 in
set_option maxHeartbeats 1000000 in
theorem count_any (A : Option Addr) (c : Nat) (rs : List Rg) (w : World) (hR : Row w w.heap.size A (rgs rs)) (hm : rs.length ≤ 1099511627776) (v : Int) (hv : ∀ r, Cnn r → (∀ x, hasP r x ↔ hasP rs x) → cntR r = v) :
    Calls Tryd.prog 21 #[.agg #[.slice A rs.length c]] w fun e w' => e = .returned (.int .i64 v) ∧ Below w.heap.size w w' := by
  have HV := Lib.hid hv
  have HR := Lib.hid hR
  clear hv hR
  refine (callsIn_wide (n := 3)).1 ?_
  refine callsIn_of_wp_marks Tryd.func21 rfl trivial ?_ rfl
  simp only [Tryd.ntmps21, List.size_toArray, List.length_cons, List.length_nil, Nat.reduceAdd, Nat.reduceSub, Array.replicate_succ, Array.replicate_zero, List.push_toArray, List.append_toArray, List.nil_append, List.cons_append]
  gi_wp2_with (refine ⟨trivial, ?_⟩; refine (callsIn_wide.2 (all_any _ _ _ _)).mono ?_; rintro e w' ⟨rfl, rfl⟩)
  have hB0 : Below w.heap.size w (((w.alloc (.cells #[.slice A rs.length c] 24)).alloc (.cells #[.int .i64 0] 3)).alloc (.cells #[.slice A rs.length c] 24)) := (((Below.refl _ w).alloc (Nat.le_refl _) _).alloc (by simp) _).alloc (by simp; omega) _
  have bS := (Boxed.new (w.alloc (.cells #[.slice A rs.length c] 24)) 3 (.int .i64 0)).alloc (.cells #[.slice A rs.length c] 24)
  have bA := Boxed.new ((w.alloc (.cells #[.slice A rs.length c] 24)).alloc (.cells #[.int .i64 0] 3)) 24 (.slice A rs.length c)
  simp only [World.size_alloc] at bS bA
  have hsz : (((w.alloc (.cells #[.slice A rs.length c] 24)).alloc (.cells #[.int .i64 0] 3)).alloc (.cells #[.slice A rs.length c] 24)).heap.size = w.heap.size + 3 := by simp
  obtain ⟨W0, hW0⟩ : ∃ W0, ((w.alloc (.cells #[.slice A rs.length c] 24)).alloc (.cells #[.int .i64 0] 3)).alloc (.cells #[.slice A rs.length c] 24) = W0 := ⟨_, rfl⟩
  rw [hW0] at bS bA hB0 hsz ⊢
  clear hW0
  refine wpIn_rangeFunc_ownH rfl (by omega) (gf := 63) (lb := #[.pointer (some ⟨w.heap.size + 1 + 1, 0, none⟩)]) rfl trivial (enters_of Tryd.func63 (by kernel_rfl) rfl)
    (all_stops _ (w.heap.size + 1 + 1) A c rs W0 (by omega) bA.cell (HR.out.below hB0).lt hm) KpR.trans (KpR.book (w := W0)) (Below.refl _ _) (fun _ => rfl)
    (fun pre W => Boxed W (w.heap.size + 1) 3 (.int .i64 (cntI pre)) ∧ Below w.heap.size w W)
    (fun _ _ _ => False)
    (OwnFrom.and (Own.from (boxed_own _ _ _) _) (ownFrom_below (Nat.le_refl _) (by omega)))
    (fun _ _ _ _ _ hs _ _ => hs)
    ⟨bS, hB0⟩
    (fun x a' W => ∃ Bx, w.heap.size + 1 < Bx ∧ W.heap[Bx]? = some (.cells #[.int .i64 x.1.1, .int .i64 x.1.2] 37 (0, 0)) ∧ a' = { tmps := #[.agg #[.slice A rs.length c], .pointer (some ⟨w.heap.size, 0, none⟩), .int .i64 0, .pointer (some ⟨w.heap.size + 1, 0, none⟩), .pointer (some ⟨Bx, 0, none⟩), .agg #[.slice A rs.length c], .func (.func 63) #[] #[.pointer (some ⟨w.heap.size + 1 + 1, 0, none⟩)], .agg #[.int .i64 x.1.1, .int .i64 x.1.2], undef, undef, undef, undef, undef, undef, undef, undef, undef], defers := [] })
    (fun x a' _ X Y row hs hg hr => by obtain ⟨Bx, h1, h2, h3⟩ := hs; exact ⟨Bx, h1, cells_kept h2 hg hr, h3⟩)
    ?assign ?body ?done ?stop
  case assign =>
    rintro l pre x W K ⟨bS1, hB1⟩ hK
    have HK := Lib.hid hK
    clear hK
    simp only [encR1]
    gi_wp2
    exact HK.out _ _ ((KeepsOthers.alloc _ _).from _) (KpR.below ((Below.refl _ W).alloc (Nat.le_refl _) _)) ⟨bS1.alloc _, hB1.alloc hB1.size _⟩ ⟨W.heap.size, by have := bS1.lt; omega, World.alloc_heap_new W _, rfl⟩
  case body =>
    rintro l pre x a' W hl hrec ⟨bS1, hB1⟩ ⟨Bx, hBx, hX, rfl⟩ hlt
    have hin := x.2
    obtain ⟨i1, i2, i3⟩ := hin
    have hcb := cntI_bd pre hlt
    have c1 := bS1.cell
    have f1 := bS1.frozen
    have c2 : W.cell? ⟨Bx, 0, none⟩ = some (.int .i64 x.1.1) := (show Blk W Bx _ _ from hX).cell 0
    have c3 : W.cell? ⟨Bx, 1, none⟩ = some (.int .i64 x.1.2) := (show Blk W Bx _ _ from hX).cell 1
    have HE := Lib.hid (cntI_snoc pre x)
    gi_wp2
    refine ⟨(KeepsOthers.setCell _ _ _).from _, (KpR.refl W).set bS1 (by decide) 0 _, ?_, hB1.setCell (p := ⟨w.heap.size + 1, 0, none⟩) (by simp) _⟩
    rw [HE.out]
    exact bS1.set _
  case done =>
    rintro D ys W hD hS ⟨bS1, hB1⟩ hK
    have c1 := bS1.cell
    have HF : Hid (cntI ys = v) := HV.out _ hS.1 hS.2
    gi_wp2
    refine ⟨by simp, .inl ⟨_, _, rfl, run_takeDeferred hK, ?_⟩⟩
    exact ⟨_, results_tmp rfl _ _ _, by rw [HF.out]; rfl, hB1.trans (belowK_b (w := w) (Nat.le_refl _) W D _ _ (by omega) hK rfl rfl)⟩
  case stop =>
    rintro D cd pre W _ _ h _
    exact h.elim
/-- what is left of the index when pre has come, and whether it was found -/
def nthL (pre : List IRg) (i : Int) : Int := i - cntI pre
theorem nthL_nil (i : Int) : nthL [] i = i := by simp [nthL, cntI, cntR]
theorem nthL_snoc (pre : List IRg) (x : IRg) (i : Int) : nthL (pre ++ [x]) i = nthL pre i - (x.1.2 - x.1.1 + 1) := by unfold nthL; rw [cntI_snoc]; omega
def NthI (i : Int) (pre : List IRg) : Prop := cntI pre ≤ i
theorem nthI_nil {i : Int} (h : 0 ≤ i) : NthI i [] := by simpa [NthI, cntI, cntR] using h
theorem nthI_snoc {i : Int} {pre : List IRg} {x : IRg} (h : ¬ nthL pre i < x.1.2 - x.1.1 + 1) : NthI i (pre ++ [x]) := by unfold NthI; rw [cntI_snoc]; unfold nthL at h; omega
def nthV (pre : List IRg) (i : Int) : Int := match pre.getLast? with | some x => x.1.1 + nthL pre.dropLast i | none => 0
theorem nthV_snoc (pre : List IRg) (x : IRg) (i : Int) : nthV (pre ++ [x]) i = x.1.1 + nthL pre i := by simp [nthV]
def NthX (i : Int) (cd : Code) (pre : List IRg) : Prop := cd = .ret ∧ ∃ p x, pre = p ++ [x] ∧ cntI p ≤ i ∧ nthL p i < x.1.2 - x.1.1 + 1
theorem nthX_mk {i : Int} {pre : List IRg} {x : IRg} (h : NthI i pre) (h2 : nthL pre i < x.1.2 - x.1.1 + 1) : NthX i .ret (pre ++ [x]) := ⟨rfl, pre, x, rfl, h, h2⟩
theorem nth_skip {l : List Rg} {m : List Rg} {i : Int} (h : cntR l ≤ i) (hl : ∀ r ∈ l, inside r) : nthR (l ++ m) i = nthR m (i - cntR l) := by
  induction l generalizing i with
  | nil => simp [cntR]
  | cons r l ih =>
    have h1 := hl r (by simp)
    have h2 := cntR_bd (l := l) (fun s hs => hl s (by simp [hs]))
    rw [cntR_cons] at h ⊢
    rw [List.cons_append, nthR, if_neg (by omega), ih (by omega) (fun s hs => hl s (by simp [hs]))]
    congr 1
    omega
theorem nth_all {l : List Rg} {i : Int} (h : cntR l ≤ i) (hl : ∀ r ∈ l, inside r) : nthR l i = (0, false) := by
  have := nth_skip (m := []) h hl
  rw [List.append_nil] at this
  rw [this]
  rfl
theorem nth_hit {l : List Rg} {r : Rg} {m : List Rg} {i : Int} (h : cntR l ≤ i) (hl : ∀ r ∈ l, inside r) (h2 : i < cntR l + (r.2 - r.1 + 1)) : nthR (l ++ r :: m) i = (r.1 + (i - cntR l), true) := by
  rw [nth_skip h hl, nthR, if_pos (by omega)]
theorem ival (pre : List IRg) : ∀ r ∈ pre.map (·.1), inside r := fun r hr => by obtain ⟨x, _, rfl⟩ := List.mem_map.1 hr; exact x.2
theorem boxed_of {W : World} {B : Nat} {t : TypeId} {v : Value} (h : Boxed W B t v) : Blk W B t #[v] := h
set_option maxRecDepth 100000 in
set_option maxHeartbeats 2000000 in
theorem nth_any (A : Option Addr) (c : Nat) (rs : List Rg) (i : Int) (hi : -9223372036854775808 ≤ i ∧ i ≤ 9223372036854775807) (w : World) (hR : Row w w.heap.size A (rgs rs)) (hm : rs.length ≤ 1099511627776) (v : Int) (f : Bool) (hneg : i < 0 → v = 0 ∧ f = false) (hv : 0 ≤ i → ∀ r, Cnn r → (∀ x, hasP r x ↔ hasP rs x) → nthR r i = (v, f)) :
    Calls Tryd.prog 22 #[.agg #[.slice A rs.length c], .int .i64 i] w fun e w' => e = .returned (.tuple #[.int .i64 v, .bool f]) ∧ Below w.heap.size w w' := by
  obtain ⟨hi1, hi2⟩ := hi
  have HV := Lib.hid hv
  have HN := Lib.hid hneg
  have HR := Lib.hid hR
  clear hv hR hneg
  by_cases h0 : i < 0
  · obtain ⟨rfl, rfl⟩ := HN.out h0
    go_enter Tryd.func22, Tryd.ntmps22
    go_wp2
    refine bodyPost_ret (v := .tuple #[.int .i64 0, .bool false]) (by simp [results, Tryd.results22, go_sem]) rfl ⟨rfl, ?_⟩
    exact ((((Below.refl _ w).alloc (Nat.le_refl _) _).alloc (by simp) _).alloc (by simp; omega) _).alloc (by simp; omega) _
  · refine (callsIn_wide (n := 3)).1 ?_
    refine callsIn_of_wp_marks Tryd.func22 rfl trivial ?_ rfl
    simp only [Tryd.ntmps22, List.size_toArray, List.length_cons, List.length_nil, Nat.reduceAdd, Nat.reduceSub, Array.replicate_succ, Array.replicate_zero, List.push_toArray, List.append_toArray, List.nil_append, List.cons_append]
    gi_wp2_with (refine ⟨trivial, ?_⟩; refine (callsIn_wide.2 (all_any _ _ _ _)).mono ?_; rintro e w' ⟨rfl, rfl⟩)
    have bX : ∀ W0, ((((w.alloc (.cells #[.slice A rs.length c] 24)).alloc (.cells #[.int .i64 i] 3)).alloc (.cells #[.int .i64 0] 3)).alloc (.cells #[.bool false] 4)).alloc (.cells #[.slice A rs.length c] 24) = W0 → Boxed W0 (w.heap.size + 1) 3 (.int .i64 i) ∧ Boxed W0 (w.heap.size + 1 + 1) 3 (.int .i64 0) ∧ Boxed W0 (w.heap.size + 1 + 1 + 1) 4 (.bool false) ∧ Boxed W0 (w.heap.size + 1 + 1 + 1 + 1) 24 (.slice A rs.length c) ∧ Below w.heap.size w W0 ∧ W0.heap.size = w.heap.size + 5 := by
      rintro _ rfl
      have b1 := (((Boxed.new (w.alloc (.cells #[.slice A rs.length c] 24)) 3 (.int .i64 i)).alloc (.cells #[.int .i64 0] 3)).alloc (.cells #[.bool false] 4)).alloc (.cells #[.slice A rs.length c] 24)
      have b2 := ((Boxed.new ((w.alloc (.cells #[.slice A rs.length c] 24)).alloc (.cells #[.int .i64 i] 3)) 3 (.int .i64 0)).alloc (.cells #[.bool false] 4)).alloc (.cells #[.slice A rs.length c] 24)
      have b3 := (Boxed.new (((w.alloc (.cells #[.slice A rs.length c] 24)).alloc (.cells #[.int .i64 i] 3)).alloc (.cells #[.int .i64 0] 3)) 4 (.bool false)).alloc (.cells #[.slice A rs.length c] 24)
      have b4 := Boxed.new ((((w.alloc (.cells #[.slice A rs.length c] 24)).alloc (.cells #[.int .i64 i] 3)).alloc (.cells #[.int .i64 0] 3)).alloc (.cells #[.bool false] 4)) 24 (.slice A rs.length c)
      simp only [World.size_alloc] at b1 b2 b3 b4
      exact ⟨b1, b2, b3, b4, (((((Below.refl _ w).alloc (Nat.le_refl _) _).alloc (by simp) _).alloc (by simp; omega) _).alloc (by simp; omega) _).alloc (by simp; omega) _, by simp⟩
    generalize hW0 : ((((w.alloc (.cells #[.slice A rs.length c] 24)).alloc (.cells #[.int .i64 i] 3)).alloc (.cells #[.int .i64 0] 3)).alloc (.cells #[.bool false] 4)).alloc (.cells #[.slice A rs.length c] 24) = W0
    obtain ⟨b1, b2, b3, b4, hB0, hsz⟩ := bX W0 hW0
    clear bX hW0
    have HJ0 := Lib.hid h0
    refine wpIn_rangeFunc_ownH rfl (by omega) (gf := 63) (lb := #[.pointer (some ⟨w.heap.size + 1 + 1 + 1 + 1, 0, none⟩)]) rfl trivial (enters_of Tryd.func63 (by kernel_rfl) rfl)
      (all_stops _ (w.heap.size + 1 + 1 + 1 + 1) A c rs W0 (by omega) b4.cell (HR.out.below hB0).lt hm) KpR.trans (KpR.book (w := W0)) (Below.refl _ _) (fun _ => rfl)
      (fun pre W => (Boxed W (w.heap.size + 1) 3 (.int .i64 (nthL pre i)) ∧ Boxed W (w.heap.size + 1 + 1) 3 (.int .i64 0) ∧ Boxed W (w.heap.size + 1 + 1 + 1) 4 (.bool false)) ∧ NthI i pre ∧ Below w.heap.size w W)
      (fun cd pre W => (Boxed W (w.heap.size + 1 + 1) 3 (.int .i64 (nthV pre i)) ∧ Boxed W (w.heap.size + 1 + 1 + 1) 4 (.bool true)) ∧ NthX i cd pre ∧ Below w.heap.size w W)
      (OwnFrom.and (OwnFrom.and (Own.from (boxed_own _ _ _) _) (OwnFrom.and (Own.from (boxed_own _ _ _) _) (Own.from (boxed_own _ _ _) _))) (OwnFrom.and (ownFrom_pure _ _) (ownFrom_below (Nat.le_refl _) (by omega))))
      (fun cd => OwnFrom.and (OwnFrom.and (Own.from (boxed_own _ _ _) _) (Own.from (boxed_own _ _ _) _)) (OwnFrom.and (ownFrom_pure _ _) (ownFrom_below (Nat.le_refl _) (by omega))))
      ⟨⟨by rw [nthL_nil]; exact b1, b2, b3⟩, nthI_nil (by omega), hB0⟩
      (fun x a' W => ∃ Bx, w.heap.size + 3 < Bx ∧ W.heap[Bx]? = some (.cells #[.int .i64 x.1.1, .int .i64 x.1.2] 37 (0, 0)) ∧ a' = { tmps := #[.agg #[.slice A rs.length c], .int .i64 i, .pointer (some ⟨w.heap.size, 0, none⟩), .pointer (some ⟨w.heap.size + 1, 0, none⟩), .pointer (some ⟨w.heap.size + 1 + 1, 0, none⟩), .pointer (some ⟨w.heap.size + 1 + 1 + 1, 0, none⟩), .pointer (some ⟨Bx, 0, none⟩), undef, .int .i64 i, .bool false, .agg #[.slice A rs.length c], .func (.func 63) #[] #[.pointer (some ⟨w.heap.size + 1 + 1 + 1 + 1, 0, none⟩)], .agg #[.int .i64 x.1.1, .int .i64 x.1.2], undef, undef, undef, undef, undef, undef, undef, undef, undef, undef, undef, undef, undef, undef, undef, undef], defers := [] })
      (fun x a' _ X Y row hs hg hr => by obtain ⟨Bx, h1, h2, h3⟩ := hs; exact ⟨Bx, h1, cells_kept h2 hg hr, h3⟩)
      ?assign ?body ?done ?stop
    case assign =>
      rintro l pre x W K ⟨⟨q1, q2, q3⟩, hN, hB1⟩ hK
      have HK := Lib.hid hK
      clear hK
      simp only [encR1]
      gi_wp2
      exact HK.out _ _ ((KeepsOthers.alloc _ _).from _) (KpR.below ((Below.refl _ W).alloc (Nat.le_refl _) _)) ⟨⟨q1.alloc _, q2.alloc _, q3.alloc _⟩, hN, hB1.alloc hB1.size _⟩ ⟨W.heap.size, by have := q3.lt; omega, World.alloc_heap_new W _, rfl⟩
    case body =>
      rintro l pre x a' W hl hrec ⟨⟨q1, q2, q3⟩, hN, hB1⟩ ⟨Bx, hBx, hX, rfl⟩ hlt
      have hin := x.2
      obtain ⟨i1, i2, i3⟩ := hin
      have hcb := cntI_bd pre hlt
      have HN1 := Lib.hid hN
      have c1 := q1.cell
      have f1 := q1.frozen
      have f2 := q2.frozen
      have f3 := q3.frozen
      have d2 := q2.cell
      have d3 := q3.cell
      have c2 : W.cell? ⟨Bx, 0, none⟩ = some (.int .i64 x.1.1) := (show Blk W Bx _ _ from hX).cell 0
      have c3 : W.cell? ⟨Bx, 1, none⟩ = some (.int .i64 x.1.2) := (show Blk W Bx _ _ from hX).cell 1
      have HE := Lib.hid (cntI_snoc pre x)
      have hL : 0 ≤ nthL pre i ∧ nthL pre i ≤ i := by unfold nthL; have := hN; unfold NthI at this; omega
      clear hN
      by_cases h2 : nthL pre i < x.1.2 - x.1.1 + 1
      · have HX : Hid (NthX i .ret (pre ++ [x])) := nthX_mk HN1.out h2
        have HVV : Hid (nthV (pre ++ [x]) i = x.1.1 + nthL pre i) := nthV_snoc pre x i
        gi_wp2
        refine ⟨((KeepsOthers.setCell _ _ _).trans (KeepsOthers.setCell _ _ _)).from _, ⟨?_, (q3.other (by omega) _).set _⟩, HX.out, (hB1.setCell (p := ⟨w.heap.size + 1 + 1, 0, none⟩) (by simp; omega) _).setCell (p := ⟨w.heap.size + 1 + 1 + 1, 0, none⟩) (by simp; omega) _⟩
        rw [HVV.out]
        exact (q2.set _).other (by omega) _
      · have HX : Hid (NthI i (pre ++ [x])) := nthI_snoc h2
        have HVV : Hid (nthL (pre ++ [x]) i = nthL pre i - (x.1.2 - x.1.1 + 1)) := nthL_snoc pre x i
        gi_wp2
        refine ⟨(KeepsOthers.setCell _ _ _).from _, (KpR.refl W).set q1 (by decide) 0 _, ⟨?_, q2.other (by omega) _, q3.other (by omega) _⟩, HX.out, hB1.setCell (p := ⟨w.heap.size + 1, 0, none⟩) (by simp) _⟩
        rw [HVV.out]
        exact q1.set _
    case done =>
      rintro D ys W hD hS ⟨⟨q1, q2, q3⟩, hN, hB1⟩ hK
      have HF : Hid (v = 0 ∧ f = false) := by
        have h1 := HV.out (by have := HJ0.out; omega) _ hS.1 hS.2
        rw [nth_all hN (ival ys)] at h1
        injection h1 with h1 h2
        exact ⟨h1.symm, h2.symm⟩
      have d2 := q2.cell
      have d3 := q3.cell
      have f2 := q2.frozen
      have f3 := q3.frozen
      obtain ⟨rfl, rfl⟩ := HF.out
      gi_wp2
      have r2 := (q2.set (.int .i64 0)).other (B' := w.heap.size + 1 + 1 + 1) (by omega) (.bool false)
      have r3 := (q3.other (B' := w.heap.size + 1 + 1) (by omega) (.int .i64 0)).set (.bool false)
      have hK' := (KeepsOthers.setCell _ ⟨w.heap.size + 1 + 1 + 1, 0, none⟩ (.bool false)).same D _ ((KeepsOthers.setCell W ⟨w.heap.size + 1 + 1, 0, none⟩ (.int .i64 0)).same D _ hK rfl) rfl
      have hB2 := (hB1.setCell (p := ⟨w.heap.size + 1 + 1, 0, none⟩) (by simp; omega) (.int .i64 0)).setCell (p := ⟨w.heap.size + 1 + 1 + 1, 0, none⟩) (by simp; omega) (.bool false)
      refine ⟨by simp, .inl ⟨_, _, rfl, run_takeDeferred hK', ?_⟩⟩
      have e2 := (r2.kept (grownBy_putObj' _ D (.deferred none)) (by intro e; injection e with e; omega)).cell
      have e3 := (r3.kept (grownBy_putObj' _ D (.deferred none)) (by intro e; injection e with e; omega)).cell
      exact ⟨.tuple #[.int .i64 0, .bool false], by simp [results, Tryd.results22, go_sem, e2, e3], rfl, hB2.trans (belowK_b (w := w) (Nat.le_refl _) _ D _ _ (by omega) hK' rfl rfl)⟩
    case stop =>
      rintro D cd pre W hD hS ⟨⟨q2, q3⟩, hN, hB1⟩ hK
      obtain ⟨rfl, p, x, rfl, hp1, hp2⟩ := hN
      have HF : Hid (v = nthV (p ++ [x]) i ∧ f = true) := by
        obtain ⟨xs, ⟨ys, rfl⟩, hc, hh⟩ := hS
        have h1 := HV.out (by have := HJ0.out; omega) _ hc hh
        rw [List.append_assoc, List.singleton_append, List.map_append, List.map_cons, nth_hit hp1 (ival p) (by have := hp2; unfold nthL cntI at this; omega)] at h1
        injection h1 with h1 h2
        refine ⟨h1.symm.trans ?_, h2.symm⟩
        rw [nthV_snoc]
        rfl
      have d2 := q2.cell
      have d3 := q3.cell
      obtain ⟨rfl, rfl⟩ := HF.out
      gi_wp2
      refine ⟨by simp, .inl ⟨_, _, rfl, run_takeDeferred hK, ?_⟩⟩
      have e2 := (q2.kept (grownBy_putObj' _ D (.deferred none)) (by intro e; injection e with e; omega)).cell
      have e3 := (q3.kept (grownBy_putObj' _ D (.deferred none)) (by intro e; injection e with e; omega)).cell
      exact ⟨.tuple #[.int .i64 (nthV (p ++ [x]) i), .bool true], by simp [results, Tryd.results22, go_sem, e2, e3], rfl, hB1.trans (belowK_b (w := w) (Nat.le_refl _) _ D _ _ (by omega) hK rfl rfl)⟩
end Go.Proofs.YtogfhaeohcpkjaaDoor
