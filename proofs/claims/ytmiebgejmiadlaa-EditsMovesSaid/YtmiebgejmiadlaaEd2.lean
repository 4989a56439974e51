/-
  edits.Check, Apply, Invert, Merge, Shift and those of the reference ref53: walks, for any edit and text of few elements.
-/
import Derived.Test.YtmiebgejmiadlaaProg
import Derived.Test.YtmiebgejmiadlaaBase
import Derived.Test.YtmiebgejmiadlaaRef1
import Derived.Test.YtmiebgejmiadlaaEd1
import Derived.WalkKit
import Derived.Deep.RegionHeld3
import Derived.Outline
namespace Go.Proofs.Ytmiebgejmiadlaa
open Go.RowKit Go.UtYtmiebgejmiadlaa
attribute [local go_sem high] cut_l cut_lh cut_lhm cutA_zero
attribute [local go_sem 500] cut_any
def checkB (x y s : Int) : Int := if x < 0 ∨ y < 0 ∨ s < x ∨ wrap64 (s - x) < y then 1 else 0
/-- the call returns a list and a code -/
def RetInts2 (w : World) (xs : List Int) (code : Int) (e : Ending) (w' : World) : Prop :=
  ∃ A c, e = .returned (.tuple #[.slice A xs.length c, .int .i64 code]) ∧ xs.length ≤ c ∧ c ≤ maxLen ∧ Row w' w'.heap.size A (ints xs) ∧ NewAt w.heap.size A ∧ Below w.heap.size w w'
/-- the call returns an edit -/
def RetEdit (w : World) (x y : Int) (xs : List Int) (e : Ending) (w' : World) : Prop :=
  ∃ A c, e = .returned (.agg #[.int .i64 x, .int .i64 y, .slice A xs.length c]) ∧ xs.length ≤ c ∧ c ≤ maxLen ∧ Row w' w'.heap.size A (ints xs) ∧ NewAt w.heap.size A ∧ Below w.heap.size w w'
/-- the call returns an edit and a value beside it -/
def RetEdit2 (w : World) (x y : Int) (xs : List Int) (v : Value) (e : Ending) (w' : World) : Prop :=
  ∃ A c, e = .returned (.tuple #[.agg #[.int .i64 x, .int .i64 y, .slice A xs.length c], v]) ∧ xs.length ≤ c ∧ c ≤ maxLen ∧ Row w' w'.heap.size A (ints xs) ∧ NewAt w.heap.size A ∧ Below w.heap.size w w'
theorem box3 {w w1 : World} {a b c : Value} {t : TypeId} (hb : Below (w.alloc (.cells #[a, b, c] t)).heap.size (w.alloc (.cells #[a, b, c] t)) w1) :
    w1.cell? ⟨w.heap.size, 0, none⟩ = some a ∧ w1.cell? ⟨w.heap.size, 1, none⟩ = some b ∧ w1.cell? ⟨w.heap.size, 2, none⟩ = some c ∧ w.heap.size < w1.heap.size ∧ Below w.heap.size w w1 := by
  have hs : (w.alloc (.cells #[a, b, c] t)).heap.size = w.heap.size + 1 := by simp
  have hz := hb.size
  rw [hs] at hb hz
  have h : ∀ k, (w.alloc (.cells #[a, b, c] t)).cell? ⟨w.heap.size, k, none⟩ = #[a, b, c][k]? := fun k => by
    have e := heap_alloc_new w (.cells #[a, b, c] t)
    unfold World.cell?
    rw [e]
    rfl
  refine ⟨(hb.cell (p := ⟨w.heap.size, 0, none⟩) (by simp)).trans (h 0), (hb.cell (p := ⟨w.heap.size, 1, none⟩) (by simp)).trans (h 1), (hb.cell (p := ⟨w.heap.size, 2, none⟩) (by simp)).trans (h 2), by omega, ?_⟩
  exact ((Below.refl _ _).alloc (Nat.le_refl _) _).trans (hb.mono (by omega))
theorem check_any (x y s : Int) (A : Option Addr) (n c : Nat) (w : World) (v : Int) (hv : checkB x y s = v) :
    Calls Try.prog 13 #[.agg #[.int .i64 x, .int .i64 y, .slice A n c], .int .i64 s] w fun e w' => e = .returned (.int .i64 v) ∧ Below w.heap.size w w' := by
  have HV := Lib.hid hv
  clear hv
  go_enter Try.func13, Try.ntmps13
  go_wp2
  all_goals (go_ret; refine ⟨ret_int ?_, (Below.refl _ _).alloc (Nat.le_refl _) _⟩; rw [← HV.out]; unfold checkB)
  all_goals first | (rw [if_pos (by omega)]; done) | (rw [if_neg (by omega)])
theorem check2_any (x y s : Int) (A : Option Addr) (n c : Nat) (w : World) (v : Int) (hv : checkB x y s = v) :
    Calls Try.prog 14 #[.agg #[.int .i64 x, .int .i64 y, .slice A n c], .int .i64 s] w fun e w' => e = .returned (.int .i64 v) ∧ Below w.heap.size w w' := by
  have HV := Lib.hid hv
  clear hv
  go_enter Try.func14, Try.ntmps14
  go_wp2
  all_goals (go_ret; refine ⟨ret_int ?_, (Below.refl _ _).alloc (Nat.le_refl _) _⟩; rw [← HV.out]; unfold checkB)
  all_goals first | (rw [if_pos (by omega)]; done) | (rw [if_neg (by omega)])
theorem small_any (x y : Int) (A : Option Addr) (n c : Nat) (w : World) (v : Bool) (hv : decide ((n : Int) ≤ 40) = v) :
    Calls Try.prog 12 #[.agg #[.int .i64 x, .int .i64 y, .slice A n c]] w fun e w' => e = .returned (.bool v) ∧ Below w.heap.size w w' := by
  have HV := Lib.hid hv
  clear hv
  go_enter Try.func12, Try.ntmps12
  go_wp2
  go_ret
  exact ⟨ret_bool HV.out, (Below.refl _ _).alloc (Nat.le_refl _) _⟩
theorem checkB_ok {i d n : Nat} (h : i + d ≤ n) (hn : n ≤ 65536) : checkB (i : Int) (d : Int) (n : Int) = 0 := by
  have : wrap64 ((n : Int) - i) = n - i := IntWalk.wrap64_in _ ⟨by omega, by omega⟩
  unfold checkB
  rw [this, if_neg (by omega)]
/-- what Check does not refuse -/
theorem checkB_nat {x y : Int} {n : Nat} (hn : n ≤ 65536) (h : checkB x y n ≠ 1) : ∃ i d : Nat, x = i ∧ y = d ∧ i + d ≤ n := by
  unfold checkB at h
  split at h
  · exact absurd rfl h
  · rename_i h'
    have h1 : 0 ≤ x := by omega
    have h2 : x ≤ n := by omega
    have : wrap64 ((n : Int) - x) = n - x := IntWalk.wrap64_in _ ⟨by omega, by omega⟩
    rw [this] at h'
    exact ⟨x.toNat, y.toNat, by omega, by omega, by omega⟩
theorem checkB_one (x y s : Int) : checkB x y s = 1 ∨ checkB x y s = 0 := by
  unfold checkB; split <;> simp
set_option maxHeartbeats 1000000 in
theorem apply_ok (i d : Nat) (A T : Option Addr) (c tc B : Nat) (ins text r : List Int) (w : World) (hA : Row w B A (ints ins)) (hT : Row w B T (ints text)) (hB : B ≤ w.heap.size)
    (htc : text.length ≤ tc) (h : i + d ≤ text.length) (hl : text.length + ins.length ≤ 60000) (hr : text.take i ++ ins ++ text.drop (i + d) = r) :
    Calls Try.prog 22 #[.agg #[.int .i64 i, .int .i64 d, .slice A ins.length c], .slice T text.length tc] w (RetInts2 w r 0) := by
  have HRR := Lib.hid hr
  clear hr
  have HA := Lib.hid hA
  have HT := Lib.hid hT
  have HK := Lib.hid (checkB_ok h (by omega))
  clear hA hT
  have k0 : (0 : Int) ≤ (i : Int) := by omega
  have k1 : (i : Int) ≤ (tc : Int) := by omega
  have k2 : (0 : Int) ≤ (i : Int) + (d : Int) := by omega
  have k3 : (i : Int) + (d : Int) ≤ (text.length : Int) := by omega
  have k4 : IntKind.i64.wrap ((i : Int) + (d : Int)) = (i : Int) + (d : Int) := IntWalk.i64_in _ (by omega)
  have k5 : ((i : Int) + (d : Int)).toNat = i + d := by omega
  go_enter Try.func22, Try.ntmps22
  go_wp2_with fail
  refine (check_any _ _ _ _ _ _ _ _ HK.out).mono ?_
  rintro e w1 ⟨rfl, hb1⟩
  obtain ⟨hc0, hc1, hc2, hz1, hbw1⟩ := box3 hb1
  have HB1 := Lib.hid hbw1
  clear hb1 hbw1
  go_wp2_with fail
  go_region_held3 (fun w' => w'.cell? ⟨w.heap.size, 0, none⟩ = some (.int .i64 i) ∧ w'.cell? ⟨w.heap.size, 1, none⟩ = some (.int .i64 d) ∧ w'.cell? ⟨w.heap.size, 2, none⟩ = some (.slice A ins.length c))
    (first | go_keep | (go_split_ands; refine ⟨?_, ?_, ?_⟩ <;> (rw [Below.cell (by assumption) (by simp; omega)]; assumption)))
    (first | (go_at_call 30
              refine (joined_n _ _ _ _ _ _ B (text.take i) ins (text.drop (i + d)) r _ _ _ _ (by simp; omega) rfl (by simp) HRR.out (HT.out.init.below (HB1.out.mono hB).drew) (HA.out.below (HB1.out.mono hB).drew) ((HT.out.tail htc).below (HB1.out.mono hB).drew) (Nat.le_trans hB HB1.out.size) (by omega)).mono ?_
              rintro e w2 ⟨A', c', rfl, hl1, hl2, hr, hnw, hb2⟩))
  have HN := Lib.hid hnw
  have HR := Lib.hid hr
  have HL := Lib.hid hl1
  have HB2 := Lib.hid hb2
  clear hr hl1 hb2 hnw
  go_wp2
  go_ret2
  exact ⟨A', c', rfl, HL.out, hl2, HR.out, HN.out.mono HB1.out.size, below_then HB1.out.drew HB2.out (Nat.le_refl _)⟩
set_option maxHeartbeats 1000000 in
theorem apply2_ok (i d : Nat) (A T : Option Addr) (c tc B : Nat) (ins text r : List Int) (w : World) (hA : Row w B A (ints ins)) (hT : Row w B T (ints text)) (hB : B ≤ w.heap.size)
    (htc : text.length ≤ tc) (h : i + d ≤ text.length) (hl : text.length + ins.length ≤ 60000) (hr : text.take i ++ ins ++ text.drop (i + d) = r) :
    Calls Try.prog 23 #[.agg #[.int .i64 i, .int .i64 d, .slice A ins.length c], .slice T text.length tc] w (RetInts2 w r 0) := by
  have HRR := Lib.hid hr
  clear hr
  have HA := Lib.hid hA
  have HT := Lib.hid hT
  have HK := Lib.hid (checkB_ok h (by omega))
  clear hA hT
  have k0 : (0 : Int) ≤ (i : Int) := by omega
  have k1 : (i : Int) ≤ (tc : Int) := by omega
  have k2 : (0 : Int) ≤ (i : Int) + (d : Int) := by omega
  have k3 : (i : Int) + (d : Int) ≤ (text.length : Int) := by omega
  have k4 : IntKind.i64.wrap ((i : Int) + (d : Int)) = (i : Int) + (d : Int) := IntWalk.i64_in _ (by omega)
  have k5 : ((i : Int) + (d : Int)).toNat = i + d := by omega
  go_enter Try.func23, Try.ntmps23
  go_wp2_with fail
  refine (check2_any _ _ _ _ _ _ _ _ HK.out).mono ?_
  rintro e w1 ⟨rfl, hb1⟩
  obtain ⟨hc0, hc1, hc2, hz1, hbw1⟩ := box3 hb1
  have HB1 := Lib.hid hbw1
  clear hb1 hbw1
  go_wp2_with fail
  go_region_held3 (fun w' => w'.cell? ⟨w.heap.size, 0, none⟩ = some (.int .i64 i) ∧ w'.cell? ⟨w.heap.size, 1, none⟩ = some (.int .i64 d) ∧ w'.cell? ⟨w.heap.size, 2, none⟩ = some (.slice A ins.length c))
    (first | go_keep | (go_split_ands; refine ⟨?_, ?_, ?_⟩ <;> (rw [Below.cell (by assumption) (by simp; omega)]; assumption)))
    (first | (go_at_call 29
              refine (join_n _ _ _ _ _ _ B (text.take i) ins (text.drop (i + d)) r _ _ _ _ (by simp; omega) rfl (by simp) HRR.out (HT.out.init.below (HB1.out.mono hB).drew) (HA.out.below (HB1.out.mono hB).drew) ((HT.out.tail htc).below (HB1.out.mono hB).drew) (Nat.le_trans hB HB1.out.size) (by omega)).mono ?_
              rintro e w2 ⟨A', c', rfl, hl1, hl2, hr, hnw, hb2⟩))
  have HN := Lib.hid hnw
  have HR := Lib.hid hr
  have HL := Lib.hid hl1
  have HB2 := Lib.hid hb2
  clear hr hl1 hb2 hnw
  go_wp2
  go_ret2
  exact ⟨A', c', rfl, HL.out, hl2, HR.out, HN.out.mono HB1.out.size, below_then HB1.out.drew HB2.out (Nat.le_refl _)⟩

theorem apply_no (x y : Int) (A T : Option Addr) (n c tc k : Nat) (w : World) (h : checkB x y k = 1) :
    Calls Try.prog 22 #[.agg #[.int .i64 x, .int .i64 y, .slice A n c], .slice T k tc] w (RetInts2 w [] 1) := by
  have HK := Lib.hid h
  clear h
  go_enter Try.func22, Try.ntmps22
  go_wp2_with fail
  refine (check_any _ _ _ _ _ _ _ _ HK.out).mono ?_
  rintro e w1 ⟨rfl, hb1⟩
  obtain ⟨-, -, -, -, hbw1⟩ := box3 hb1
  have HB1 := Lib.hid hbw1
  clear hb1 hbw1
  go_wp2_with fail
  go_ret2
  exact ⟨none, 0, rfl, Nat.le_refl _, by simp [maxLen], Row.nil, NewAt.none_, HB1.out⟩

theorem apply2_no (x y : Int) (A T : Option Addr) (n c tc k : Nat) (w : World) (h : checkB x y k = 1) :
    Calls Try.prog 23 #[.agg #[.int .i64 x, .int .i64 y, .slice A n c], .slice T k tc] w (RetInts2 w [] 1) := by
  have HK := Lib.hid h
  clear h
  go_enter Try.func23, Try.ntmps23
  go_wp2_with fail
  refine (check2_any _ _ _ _ _ _ _ _ HK.out).mono ?_
  rintro e w1 ⟨rfl, hb1⟩
  obtain ⟨-, -, -, -, hbw1⟩ := box3 hb1
  have HB1 := Lib.hid hbw1
  clear hb1 hbw1
  go_wp2_with fail
  go_ret2
  exact ⟨none, 0, rfl, Nat.le_refl _, by simp [maxLen], Row.nil, NewAt.none_, HB1.out⟩
end Go.Proofs.Ytmiebgejmiadlaa
