/-
  incbreak.among; ref54.in.
-/
import Derived.Test.YtkpblieanejmeaaIb0
import Derived.Test.YtkpblieanejmeaaBw6
namespace Go.Proofs.Ytkpblieanejmeaa
open Go.RowKit Go.UtYtkpblieanejmeaa
theorem bool_inf : (Try.prog.info? 4).map (fun i => (i.zero, i.size, i.bytes)) = some (some (.bool false), 1, 1) := by kernel_rfl
set_option maxRecDepth 100000 in
set_option maxHeartbeats 2000000 in
theorem in54_any (A : Option Addr) (m c : Nat) (l : List Int) (x : Int) (w : World) (v : Bool) (hl : Row w w.heap.size A (ints l)) (hm : l.length = m) (hm2 : m ≤ 1000000) (hv : decide (x ∈ l) = v) :
    Calls Try.prog 44 #[.slice A m c, .int .i64 x] w fun e w' => e = .returned (.bool v) ∧ w' = w := by
  have HL := Lib.hid hl
  have HM := Lib.hid hm
  have HV := Lib.hid hv
  clear hl hm hv
  go_enter Try.func44, Try.ntmps44
  go_wp2
  go_loopw [9] (fun i wr => ∃ k : Nat, k ≤ m ∧ i = .int .i64 (k : Int) ∧ Hid (∀ y ∈ l.take k, y ≠ x) ∧ wr = w) (fun i _ => m - (intOf i).toNat)
  case atStart => exact ⟨0, by omega, rfl, Lib.hid (by simp), rfl⟩
  case round =>
    obtain ⟨k, hk, rfl, HN, hw⟩ := hrel
    subst wr
    by_cases hkm : k < m
    · obtain ⟨b, o, q, hA, hb, hq, cq⟩ := HL.out.at_int (k := k) (by rw [HM.out]; exact hkm)
      subst hA
      by_cases hqx : q = x
      · have HF : Hid (v = true) := Lib.hid (by rw [← HV.out]; exact decide_eq_true (hqx ▸ List.mem_of_getElem? hq.out))
        have dq : decide (q = x) = true := decide_eq_true hqx
        go_wp2
        go_ret
        exact ⟨by rw [HF.out]; rfl, rfl⟩
      · have dq : decide (q = x) = false := decide_eq_false hqx
        have bq : (q == x) = false := by simpa using hqx
        have HN' : Hid (∀ y ∈ l.take (k + 1), y ≠ x) := Lib.hid (by
          intro y hy
          obtain ⟨h1, h2⟩ := List.getElem?_eq_some_iff.1 hq.out
          rw [List.take_succ_eq_append_getElem h1, h2] at hy
          rcases List.mem_append.1 hy with hy | hy
          · exact HN.out y hy
          · rw [List.mem_singleton.1 hy]
            exact hqx)
        go_wp2
        go_roundw
        case rel => exact ⟨k + 1, by omega, by go_num, HN', trivial⟩
        case measure => simp [intOf] <;> omega
    · have HF : Hid (v = false) := Lib.hid (by
        rw [← HV.out]
        refine decide_eq_false (fun h => HN.out x ?_ rfl)
        rw [List.take_of_length_le (by rw [HM.out]; omega)]
        exact h)
      go_wp2
      go_ret
      exact ⟨by rw [HF.out]; rfl, rfl⟩
set_option maxRecDepth 100000 in
set_option maxHeartbeats 2000000 in
theorem among_any (A : Option Addr) (m c n : Nat) (l : List Int) (w : World) (hl : Row w w.heap.size A (ints l)) (hm : l.length = m) (hm2 : m ≤ 1000000) (hn : n ≤ 1000000) (hb : ∀ y ∈ l, 0 ≤ y ∧ y ≤ (n : Int)) :
    Calls Try.prog 46 #[.slice A m c, .int .i64 (n : Int)] w fun e w' => e = .returned (.slice (some ⟨w.heap.size, 0, none⟩) (n + 1) (n + 1)) ∧ Hid (Blk w' w.heap.size 4 ((amB n l).map Value.bool).toArray) ∧ Hid (Below w.heap.size w w') := by
  obtain ⟨i0, hi0, hz0, hz1, hz2⟩ := info_parts bool_inf
  have HL := Lib.hid hl
  have HM := Lib.hid hm
  have HBD := Lib.hid hb
  clear hl hm hb
  go_enter Try.func46, Try.ntmps46
  go_wp2_with (first
    | (at_make
       refine wpList_make_zero _ rfl _ _ 90 rfl 4 i0 _ Try.underlying90 hi0 hz0 hz1 rfl _ _ _ _ (n + 1) rfl rfl (by omega) (by omega) (by rw [hz2]; omega) (by simp only [maxLen]; omega) ?_
       intro w3 hk3 hb3))
  have HK3 : Hid (Blk w3 w.heap.size 4 ((amB n (l.take 0)).map Value.bool).toArray) := Lib.hid (by
    rw [List.take_zero, amB_nil, List.map_replicate]
    exact hk3.out)
  have HB3 := hb3
  clear hk3 hb3
  obtain ⟨g, hg⟩ : ∃ z, z = w.heap.size := ⟨_, rfl⟩
  rw [← hg] at HK3 ⊢
  have HG := Lib.hid hg
  clear hg
  go_loopw [13] (fun i wr => ∃ k : Nat, k ≤ m ∧ i = .int .i64 (k : Int) ∧ Hid (Blk wr g 4 ((amB n (l.take k)).map Value.bool).toArray) ∧ Hid (Below w.heap.size w wr)) (fun i _ => m - (intOf i).toNat)
  case atStart => exact ⟨0, by omega, rfl, HK3, HB3⟩
  case round =>
    obtain ⟨k, hk, rfl, HK, HB⟩ := hrel
    by_cases hkm : k < m
    · obtain ⟨b, o, q, hA, hb, hq, cq⟩ := (HL.out.below HB.out).at_int (k := k) (by rw [HM.out]; exact hkm)
      subst hA
      obtain ⟨h1, h2⟩ := HBD.out q (List.mem_of_getElem? hq.out)
      obtain ⟨y, rfl⟩ : ∃ y : Nat, q = (y : Int) := ⟨q.toNat, by omega⟩
      have hyn : y < n + 1 := by omega
      have hcell : wr.cell? ⟨g, y, none⟩ = some (.bool (decide ((y : Int) ∈ l.take k))) := by
        rw [HK.out.cell y, List.getElem?_toArray, List.getElem?_map, amB_get (by omega)]
        rfl
      have hfree := HK.out.free y
      have hgl := HK.out.lt
      have hbr : b < wr.heap.size := by have := HB.out.size; omega
      obtain ⟨w4, hw4, HK4, HB4⟩ : ∃ z, z = wr.setCell ⟨g, y, none⟩ (.bool true) ∧ Hid (Blk z g 4 ((amB n (l.take (k + 1))).map Value.bool).toArray) ∧ Hid (Below w.heap.size w z) := by
        refine ⟨_, rfl, Lib.hid ?_, Lib.hid (HB.out.setCell (p := ⟨g, y, none⟩) (by show _ ≤ g; rw [HG.out]; exact Nat.le_refl _) _)⟩
        have h := HK.out.set_ y (.bool true)
        rw [List.setIfInBounds_toArray, ← List.map_set, amB_step hq.out] at h
        exact h
      go_wp2
      rw [← hw4]
      clear hw4
      go_roundw
      case rel => exact ⟨k + 1, by omega, by go_num, HK4, HB4⟩
      case measure => simp [intOf] <;> omega
    · have HE : Hid (l.take k = l) := Lib.hid (List.take_of_length_le (by rw [HM.out]; omega))
      rw [HE.out] at HK
      go_wp2
      go_ret
      rw [← HG.out]
      exact ⟨rfl, HK, by rw [HG.out]; exact HB⟩
end Go.Proofs.Ytkpblieanejmeaa
