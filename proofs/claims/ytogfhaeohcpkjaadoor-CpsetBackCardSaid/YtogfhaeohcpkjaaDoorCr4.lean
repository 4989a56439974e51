/-
  ref02.Count, ref02.Nth: walks.
-/
import Derived.Test.YtogfhaeohcpkjaaDoorProg
import Derived.Test.YtogfhaeohcpkjaaDoorCr3
import Derived.Test.YtogfhaeohcpkjaaDoorCs11
import Derived.WalkKit
import Derived.Deep.QuietTactic
import Derived.BigQuiet
import Derived.KernelRfl
import Derived.Outline
import Derived.IntWalk
namespace Go.Proofs.YtogfhaeohcpkjaaDoor
open Go.RowKit Go.UtYtogfhaeohcpkjaaDoor
theorem cnt_step {r : List Rg} {k : Nat} {lo hi : Int} (h : r[k]? = some (lo, hi)) : cntR (r.take (k + 1)) = cntR (r.take k) + (hi - lo + 1) := by
  rw [take_rg h, cntR_snoc]
theorem cnt_bds {r : List Rg} (hc : Cnn r) (k : Nat) : 0 ≤ cntR (r.take k) ∧ cntR (r.take k) ≤ 1241245548544 := by
  have h1 := cntR_bd (l := r.take k) (fun s hs => cnn_inside hc s (List.mem_of_mem_take hs))
  have h2 := can_len hc
  have h3 : (r.take k).length ≤ r.length := by simp; omega
  omega
/-- The set that the reference makes of its argument, put into the argument's own box. -/
structure Own2 (w w3 : World) (A2 : Option Addr) (c2 : Nat) (r : List Rg) : Prop where
  below : Below w.heap.size w w3
  box : Blk w3 w.heap.size 24 #[.slice A2 r.length c2]
  row : Row w3 w3.heap.size A2 (rgs r)
theorem own2_mk {w w1 w2 : World} {A2 : Option Addr} {c2 : Nat} {r : List Rg} {u : Value} (h1 : Below w.heap.size w w1) (hx : Blk w1 w.heap.size 24 #[u]) (hr : Row w2 w2.heap.size A2 (rgs r)) (hb : Below w1.heap.size w1 w2) :
    Blk w2 w.heap.size 24 #[u] ∧ Own2 w (w2.setCell ⟨w.heap.size, 0, none⟩ (.slice A2 r.length c2)) A2 c2 r := by
  have hx2 := hx.after hb
  refine ⟨hx2, (h1.trans (hb.mono h1.size)).setCell (p := ⟨w.heap.size, 0, none⟩) (Nat.le_refl _) _, ?_, ?_⟩
  · have := hx2.set_ 0 (.slice A2 r.length c2)
    simpa using this
  · have := row_one hx2 (grown_set (grown_refl w2 (some w.heap.size)) 0 (.slice A2 r.length c2)) hr (Nat.le_refl _)
    simpa using this
set_option maxRecDepth 100000 in
set_option maxHeartbeats 1000000 in
theorem rCount_any (A : Option Addr) (c : Nat) (l : List Rg) (w : World) (hR : Row w w.heap.size A (rgs l)) (hm : l.length ≤ 20000) (v : Int) (hv : ∀ r, Cnn r → (∀ x, hasP r x ↔ hasP l x) → cntR r = v) :
    Calls Tryd.prog 40 #[.agg #[.slice A l.length c]] w fun e w' => e = .returned (.int .i64 v) ∧ Below w.heap.size w w' := by
  obtain ⟨w1, h1, HB1, HX1⟩ : ∃ w1, w1 = w.alloc (.cells #[.slice A l.length c] 24) ∧ Hid (Below w.heap.size w w1) ∧ Hid (Blk w1 w.heap.size 24 #[.slice A l.length c]) := ⟨_, rfl, (Below.refl _ _).alloc (Nat.le_refl _) _, Blk.new _ _ _⟩
  have HR := Lib.hid (hR.below HB1.out).lt
  have HV := Lib.hid hv
  clear hR hv
  go_enter Tryd.func40, Tryd.ntmps40
  go_wp2_with fail
  rw [← h1]
  clear h1
  refine (rMake_any A c l w1 HR.out (by omega)).mono ?_
  rintro e w2 ⟨A2, c2, r, rfl, hc, hh, hr, hb⟩
  have hrl := can_len hc
  have HF := Lib.hid (HV.out r hc hh)
  have HC := Lib.hid hc
  obtain ⟨hx2, hown⟩ := own2_mk (c2 := c2) HB1.out HX1.out hr hb
  have y0 := hx2.cell 0
  have z0 := hx2.free 0
  simp at y0
  obtain ⟨w3, h3⟩ : ∃ w3, w3 = w2.setCell ⟨w.heap.size, 0, none⟩ (.slice A2 r.length c2) := ⟨_, rfl⟩
  rw [← h3] at hown
  have HW := Lib.hid hown
  clear hc hh hr hb hx2 hown
  go_wp2_with fail
  rw [← h3]
  clear h3 y0 z0
  go_loopw [3, 4] (fun n i wr => ∃ k : Nat, k ≤ r.length ∧ i = .int .i64 (k : Int) ∧ n = .int .i64 (cntR (r.take k)) ∧ Hid (Below w3.heap.size w3 wr)) (fun _ i _ => r.length - (intOf i).toNat)
  case atStart => exact ⟨0, by omega, rfl, rfl, Below.refl _ _⟩
  case round =>
    obtain ⟨k, hk, rfl, rfl, HB⟩ := hrel
    have e1 := (HW.out.box.after HB.out).cell 0
    simp at e1
    have hbd := cnt_bds HC.out k
    by_cases h1 : k < r.length
    · obtain ⟨b, o, lo, hi, rfl, hb, hx, c1, c2'⟩ := at_rg (HW.out.row.below HB.out) h1
      have HS := Lib.hid (cnt_step hx.out)
      have hin := cnn_inside HC.out _ (List.mem_of_getElem? hx.out)
      obtain ⟨i1, i2, i3⟩ := hin
      simp only at i1 i2 i3
      obtain ⟨s, hs⟩ : ∃ s, cntR (r.take k) = s := ⟨_, rfl⟩
      rw [hs] at hbd HS
      rw [hs]
      clear hs
      have k1 : IntKind.i64.wrap (s + hi) = s + hi := IntWalk.i64_in _ (by omega)
      have k2 : IntKind.i64.wrap (s + hi - lo) = s + hi - lo := IntWalk.i64_in _ (by omega)
      have k3 : IntKind.i64.wrap (s + hi - lo + 1) = s + hi - lo + 1 := IntWalk.i64_in _ (by omega)
      go_wp2
      go_quiet (fail)
      clear k1 k2 k3
      go_wp2
      go_roundw
      case rel => exact ⟨k + 1, by omega, by go_num, by rw [HS.out]; exact congrArg (Value.int .i64) (by omega), below_drewN HB.out _⟩
      case measure => simp [intOf]; omega
    · obtain rfl : k = r.length := by omega
      rw [List.take_length, HF.out]
      go_wp2
      go_ret
      exact ⟨rfl, HW.out.below.trans (HB.out.mono HW.out.below.size)⟩
set_option maxRecDepth 100000 in
set_option maxHeartbeats 1000000 in
theorem rNth_any (A : Option Addr) (c : Nat) (l : List Rg) (i : Int) (hi : -9223372036854775808 ≤ i ∧ i ≤ 9223372036854775807) (w : World) (hR : Row w w.heap.size A (rgs l)) (hm : l.length ≤ 20000) (v : Int) (f : Bool) (hneg : i < 0 → v = 0 ∧ f = false) (hv : 0 ≤ i → ∀ r, Cnn r → (∀ x, hasP r x ↔ hasP l x) → nthR r i = (v, f)) :
    Calls Tryd.prog 39 #[.agg #[.slice A l.length c], .int .i64 i] w fun e w' => e = .returned (.tuple #[.int .i64 v, .bool f]) ∧ Below w.heap.size w w' := by
  obtain ⟨hi1, hi2⟩ := hi
  obtain ⟨w1, h1, HB1, HX1⟩ : ∃ w1, w1 = w.alloc (.cells #[.slice A l.length c] 24) ∧ Hid (Below w.heap.size w w1) ∧ Hid (Blk w1 w.heap.size 24 #[.slice A l.length c]) := ⟨_, rfl, (Below.refl _ _).alloc (Nat.le_refl _) _, Blk.new _ _ _⟩
  have HR := Lib.hid (hR.below HB1.out).lt
  have HV := Lib.hid hv
  have HN := Lib.hid hneg
  clear hR hv hneg
  go_enter Tryd.func39, Tryd.ntmps39
  go_wp2_with fail
  rw [← h1]
  clear h1
  refine (rMake_any A c l w1 HR.out (by omega)).mono ?_
  rintro e w2 ⟨A2, c2, r, rfl, hc, hh, hr, hb⟩
  have hrl := can_len hc
  have HC := Lib.hid hc
  have HF : Hid (0 ≤ i → nthR r i = (v, f)) := fun h => HV.out h r hc hh
  obtain ⟨hx2, hown⟩ := own2_mk (c2 := c2) HB1.out HX1.out hr hb
  have y0 := hx2.cell 0
  have z0 := hx2.free 0
  simp at y0
  obtain ⟨w3, h3⟩ : ∃ w3, w3 = w2.setCell ⟨w.heap.size, 0, none⟩ (.slice A2 r.length c2) := ⟨_, rfl⟩
  rw [← h3] at hown
  have HW := Lib.hid hown
  clear hc hh hr hb hx2 hown
  by_cases h0 : i < 0
  · obtain ⟨rfl, rfl⟩ := HN.out h0
    go_wp2
    go_ret2
    refine ⟨rfl, ?_⟩
    rw [← h3]
    exact HW.out.below
  · have h00 : 0 ≤ i := by omega
    have HFF := Lib.hid (HF.out h00)
    go_wp2_with fail
    rw [← h3]
    clear h3 y0 z0
    go_loopw [1, 6] (fun j q wr => ∃ k : Nat, k ≤ r.length ∧ q = .int .i64 (k : Int) ∧ j = .int .i64 (i - cntR (r.take k)) ∧ cntR (r.take k) ≤ i ∧ Hid (Below w3.heap.size w3 wr)) (fun _ q _ => r.length - (intOf q).toNat)
    case atStart => exact ⟨0, by omega, rfl, by simp [cntR], by simp [cntR]; omega, Below.refl _ _⟩
    case round =>
      obtain ⟨k, hk, rfl, rfl, hle, HB⟩ := hrel
      have e1 := (HW.out.box.after HB.out).cell 0
      simp at e1
      have hbd := cnt_bds HC.out k
      by_cases h1 : k < r.length
      · obtain ⟨b, o, lo, hh, rfl, hb, hx, c1, c2'⟩ := at_rg (HW.out.row.below HB.out) h1
        have HS := Lib.hid (cnt_step hx.out)
        have hin := cnn_inside HC.out _ (List.mem_of_getElem? hx.out)
        obtain ⟨i1, i2, i3⟩ := hin
        simp only at i1 i2 i3
        have HIN := Lib.hid (fun s hs => cnn_inside HC.out s (List.mem_of_mem_take hs) : ∀ s ∈ r.take k, inside s)
        have HSP : Hid (r = r.take k ++ (lo, hh) :: r.drop (k + 1)) := by
          show _ = _
          obtain ⟨hk', e⟩ := List.getElem?_eq_some_iff.1 hx.out
          rw [← e, ← List.drop_eq_getElem_cons hk', List.take_append_drop]
        obtain ⟨s, hs⟩ : ∃ s, cntR (r.take k) = s := ⟨_, rfl⟩
        have HSS := Lib.hid hs
        rw [hs] at hbd HS hle
        rw [hs]
        clear hs
        have k1 : IntKind.i64.wrap (hh - lo) = hh - lo := IntWalk.i64_in _ (by omega)
        have k2 : IntKind.i64.wrap (hh - lo + 1) = hh - lo + 1 := IntWalk.i64_in _ (by omega)
        by_cases h2 : i - s < hh - lo + 1
        · have HH : Hid ((v, f) = (lo + (i - s), true)) := by
            show _ = _
            rw [← HFF.out, HSP.out, nth_hit (by rw [HSS.out]; exact hle) HIN.out (by rw [HSS.out]; simp only; omega), HSS.out]
          obtain ⟨rfl, rfl⟩ := Prod.mk.inj HH.out
          go_wp2
          go_quiet (fail)
          clear k1 k2
          go_wp2
          go_ret2
          exact ⟨rfl, below_drewN (HW.out.below.trans (HB.out.mono HW.out.below.size)) _⟩
        · go_wp2
          go_quiet (fail)
          clear k1 k2
          go_wp2
          go_roundw
          case rel => exact ⟨k + 1, by omega, by go_num, by rw [HS.out]; exact congrArg (Value.int .i64) (by omega), by rw [HS.out]; omega, below_drewN HB.out _⟩
          case measure => simp [intOf]; omega
      · obtain rfl : k = r.length := by omega
        rw [List.take_length] at hle
        have HH : Hid ((v, f) = (0, false)) := by
          show _ = _
          rw [← HFF.out, nth_all hle (cnn_inside HC.out)]
        obtain ⟨rfl, rfl⟩ := Prod.mk.inj HH.out
        go_wp2
        go_ret2
        exact ⟨rfl, HW.out.below.trans (HB.out.mono HW.out.below.size)⟩
end Go.Proofs.YtogfhaeohcpkjaaDoor
