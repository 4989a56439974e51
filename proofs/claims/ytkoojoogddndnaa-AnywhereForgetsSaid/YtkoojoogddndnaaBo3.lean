/-
  law31.few, alive.
-/
import Derived.Test.YtkoojoogddndnaaBo2
import Derived.Test.YtkoojoogddndnaaBs2
import Derived.Test.YtkoojoogddndnaaBa9
import Derived.Test.YtkoojoogddndnaaBw1
import Derived.Test.YtkoojoogddndnaaBp5
namespace Go.UtYtkoojoogddndnaa
theorem ex_sync : syncL exT = [(0, 0, 1), (0, 1, 0), (1, 0, 1), (1, 1, 0)] := by
  rw [syncL_pos exT_valid]
  decide
theorem ex_start : startN exT.ln [0, 0, 1] 3 = (3, 0) := by decide
theorem ex_bnd : bndL exP exT [97, 98, 97] = [0, 2, 3] := by
  rw [exBnd]
  decide
theorem ex_act : acV exP exT [97, 98, 97] = [2, 1, 2, 2] := by
  unfold acV
  rw [if_pos exT_valid, exC]
  decide
theorem ex_pts : ptsL exP exT [97, 98, 97] = [(0, 2), (2, 3)] := by
  unfold ptsL
  rw [ex_act]
  decide
end Go.UtYtkoojoogddndnaa
namespace Go.Proofs.Ytkoojoogddndnaa
open Go.RowKit Go.UtYtkoojoogddndnaa
def smallB (t : BT) (n : Nat) : Prop := smT t ∧ n ≤ 40
set_option maxRecDepth 100000 in
set_option maxHeartbeats 1000000 in
theorem few31_any (x : TA) (t : BT) (A : Option Addr) (n c : Nat) (w : World) (h : TabAt w w.heap.size x t) (v : Bool) (hv : v = true ↔ smT t ∧ n ≤ 40) :
    Calls Try.prog 14 #[x.val t, .slice A n c] w fun e w' => e = .returned (.bool v) ∧ Below w.heap.size w w' := by
  have CS := Lib.hid (fun (u : World) (hu : Below w.heap.size w u) (v : Bool) (hv : v = true ↔ smT t) => smT_any x t u (h.below hu).lt v hv)
  have HV := Lib.hid hv
  unfold TA.val at CS ⊢
  obtain ⟨w1, hw1, HB1, HK1⟩ := boxT w 28 x t
  obtain ⟨q0, q1, q2, q3, q4, q5, ql⟩ := tab6 HK1.out
  clear h hv
  by_cases hs : smT t
  · have HF : Hid (v = decide (n ≤ 40)) := Lib.hid (by
      apply bool_iff
      rw [HV.out]
      simp [hs])
    go_enter Try.func14, Try.ntmps14
    go_upto_region 1 with fail
    rw [← hw1]
    clear hw1
    go_wp2_with fail
    refine (CS.out w1 HB1.out true ⟨fun _ => hs, fun _ => rfl⟩).mono ?_
    rintro e w2 ⟨rfl, hb2⟩
    have HB2 := Lib.hid (HB1.out.trans (hb2.mono HB1.out.size))
    clear hb2
    go_wp2_with fail
    refine (few01_any A n c 40 w2).mono ?_
    rintro e w3 ⟨rfl, hw3⟩
    subst hw3
    go_wp2
    go_ret
    exact ⟨ret_bool HF.out.symm, HB2.out⟩
  · have HF : Hid (v = false) := Lib.hid (bool_neg HV.out (fun h => hs h.1))
    go_enter Try.func14, Try.ntmps14
    go_upto_region 1 with fail
    rw [← hw1]
    clear hw1
    go_wp2_with fail
    refine (CS.out w1 HB1.out false ⟨fun h => (by cases h), fun h => absurd h hs⟩).mono ?_
    rintro e w2 ⟨rfl, hb2⟩
    have HB2 := Lib.hid (HB1.out.trans (hb2.mono HB1.out.size))
    clear hb2
    go_wp2
    go_ret
    exact ⟨ret_bool HF.out.symm, HB2.out⟩
end Go.Proofs.Ytkoojoogddndnaa
