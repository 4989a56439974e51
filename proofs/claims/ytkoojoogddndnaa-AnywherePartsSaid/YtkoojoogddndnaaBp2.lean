/-
  property.index, inside, Valid; ref10.Valid.
-/
import Derived.Test.YtkoojoogddndnaaBp1
namespace Go.UtYtkoojoogddndnaa
theorem spans_snoc {n k : Nat} {l : List (Int × Int × Int)} {s : Int × Int × Int} (h : spansOk n (l.take k)) (hk : l[k]? = some s) (h1 : spanOk n s) (h2 : ∀ p, 0 < k → l[k - 1]? = some p → joinOk p s) : spansOk n (l.take (k + 1)) := by
  obtain ⟨hk', e⟩ := List.getElem?_eq_some_iff.1 hk
  refine ⟨?_, fun i p q hp hq => ?_⟩
  · intro x hx
    rw [List.take_succ_eq_append_getElem hk', e] at hx
    rcases List.mem_append.1 hx with hx | hx
    · exact h.1 x hx
    · rw [List.mem_singleton.1 hx]
      exact h1
  · have hi : i + 1 < k + 1 := by
      have := (List.getElem?_eq_some_iff.1 hq).1
      rw [List.length_take] at this
      omega
    rw [List.getElem?_take, if_pos (by omega)] at hp hq
    by_cases hik : i + 1 < k
    · exact h.2 i p q (by rw [List.getElem?_take, if_pos (by omega)]; exact hp) (by rw [List.getElem?_take, if_pos hik]; exact hq)
    · obtain rfl : k = i + 1 := by omega
      rw [hk] at hq
      injection hq with hq
      subst hq
      exact h2 p (by omega) hp
end Go.UtYtkoojoogddndnaa
namespace Go.Proofs.Ytkoojoogddndnaa
open Go.RowKit Go.UtYtkoojoogddndnaa
attribute [local go_sem high] str_eql str_neq
/-- the names so far, with their indices -/
def idxM (l : List Nm) : List (Nm × Value) := (List.range l.length).map fun i => (l.getD i [], .int .i64 (i : Int))
theorem idxM_snoc {l : List Nm} {k : Nat} {s : Nm} (hk : l[k]? = some s) : idxM (l.take (k + 1)) = idxM (l.take k) ++ [(s, .int .i64 (k : Int))] := by
  obtain ⟨hk', e⟩ := List.getElem?_eq_some_iff.1 hk
  unfold idxM
  rw [List.length_take, List.length_take, Nat.min_eq_left (by omega), Nat.min_eq_left (by omega), List.range_succ, List.map_append]
  congr 1
  · apply List.map_congr_left
    intro i hi
    have := List.mem_range.1 hi
    simp only [List.getD_eq_getElem?_getD]
    rw [List.getElem?_take, List.getElem?_take, if_pos (by omega), if_pos (by omega)]
  · simp only [List.map_cons, List.map_nil, List.getD_eq_getElem?_getD]
    rw [List.getElem?_take, if_pos (by omega), hk]
    rfl
theorem idxM_none {l : List Nm} {s : Nm} (h : s ∉ l) : lkpS (idxM l) s = none := by
  unfold lkpS idxM
  rw [List.find?_eq_none.2]
  · rfl
  · intro x hx
    obtain ⟨i, hi, rfl⟩ := List.mem_map.1 hx
    have hi2 := List.mem_range.1 hi
    simp only [decide_eq_true_eq]
    intro e
    apply h
    rw [e, List.getD_eq_getElem?_getD, List.getElem?_eq_getElem hi2]
    exact List.getElem_mem hi2
theorem idxM_some {l : List Nm} {s : Nm} (h : s ∈ l) : ∃ i : Nat, lkpS (idxM l) s = some (.int .i64 (i : Int)) := by
  unfold lkpS
  cases hf : (idxM l).find? fun x => decide (s = x.1) with
  | none =>
    exfalso
    obtain ⟨i, hi, e⟩ := List.getElem_of_mem h
    have := List.find?_eq_none.1 hf (s, .int .i64 (i : Int)) (by
      unfold idxM
      refine List.mem_map.2 ⟨i, List.mem_range.2 hi, ?_⟩
      rw [List.getD_eq_getElem?_getD, List.getElem?_eq_getElem hi, e]
      rfl)
    simp at this
  | some x =>
    have := List.mem_of_find?_eq_some hf
    unfold idxM at this
    obtain ⟨i, _, rfl⟩ := List.mem_map.1 this
    exact ⟨i, rfl⟩
theorem int_zero (w : World) : (zeroValue 3).run Try.prog w = .ok (.int .i64 0) w := by
  simp [go_sem]
set_option maxRecDepth 100000 in
set_option maxHeartbeats 2000000 in
theorem index_any (A : Option Addr) (c : Nat) (l : List Nm) (w : World) (h : StrsAt w w.heap.size A l) (hc : l.length ≤ c) (hm : c ≤ maxLen) (v : Bool) (hv : v = true ↔ namesOk l) :
    Calls Try.prog 110 #[.slice A l.length c] w fun e w' => ∃ mv : Value, e = .returned (.tuple #[mv, .bool v]) ∧ Below w.heap.size w w' := by
  have HV := Lib.hid hv
  have HR := Lib.hid h.1
  have HL := Lib.hid h.2
  obtain ⟨n, hn⟩ : ∃ n, l.length = n := ⟨_, rfl⟩
  have HN := Lib.hid hn
  rw [hn] at hc ⊢
  unfold maxLen at hm
  clear hv h hn
  have hmm := @run_makeMap Try.prog
  by_cases g1 : n = 0
  · have HF : Hid (v = false) := bool_neg HV.out (fun h => by have := h.1.1; rw [HN.out] at this; omega)
    subst g1
    go_enter Try.func110, Try.ntmps110
    go_wp2
    go_ret2
    exact ⟨_, by rw [HF.out]; rfl, Below.refl _ _⟩
  by_cases g2 : 250 < n
  · have HF : Hid (v = false) := bool_neg HV.out (fun h => by have := h.1.2; rw [HN.out] at this; omega)
    go_enter Try.func110, Try.ntmps110
    go_wp2
    go_ret2
    exact ⟨_, by rw [HF.out]; rfl, Below.refl _ _⟩
  have d1 : ((n : Int) == 0) = false := by simp; omega
  have d2 : decide (250 < n) = false := decide_eq_false g2
  obtain ⟨w1, hw1, HB1, HM1⟩ : ∃ u, u = w.alloc (.map #[] 0) ∧ Hid (Below w.heap.size w u) ∧ Hid (MapS u w.heap.size (idxM (l.take 0))) := ⟨_, rfl, (Below.refl _ _).alloc (Nat.le_refl _) _, MapS.new w⟩
  go_enter Try.func110, Try.ntmps110
  go_upto_region 4 with fail
  rw [← hw1]
  clear hw1
  go_wp2
  go_loopw [20] (fun i wr => ∃ k : Nat, k ≤ n ∧ i = .int .i64 (k : Int) ∧ Hid (∀ s ∈ l.take k, nameB s = true) ∧ Hid (distL (l.take k)) ∧ Hid (MapS wr w.heap.size (idxM (l.take k))) ∧ Hid (Below w.heap.size w wr)) (fun i _ => n - (intOf i).toNat)
  case atStart => exact ⟨0, by omega, rfl, fun s hs => by simp at hs, fun i j a b _ ha _ => by simp at ha, HM1, HB1⟩
  case round =>
    obtain ⟨k, hk, rfl, HK, HD, HM, HB⟩ := hrel
    by_cases hkn : k < n
    · obtain ⟨b, o, s, rfl, hb, hx, cc⟩ := (HR.out.below HB.out).at_str (k := k) (by rw [HN.out]; exact hkn)
      have hsl := HL.out s (List.mem_of_getElem? hx.out)
      have hbw : b < wr.heap.size := by have := HB.out.size; omega
      have hlook := look_s2 (w := wr) Try.underlying9 Try.underlying129 (int_zero wr) HM.out s
      by_cases hse : s ∈ l.take k
      · obtain ⟨i, hi⟩ := idxM_some hse
        rw [hi] at hlook
        simp only [Option.getD_some, Option.isSome_some] at hlook
        have HF : Hid (v = false) := bool_neg HV.out (fun h => by
          obtain ⟨i, hi, e⟩ := List.getElem_of_mem hse
          rw [List.length_take] at hi
          have hi2 : l[i]? = some s := by
            have := List.getElem?_eq_getElem (l := l.take k) (i := i) (by rw [List.length_take]; exact hi)
            rw [List.getElem?_take, if_pos (by omega), e] at this
            exact this
          exact h.2.2 i k s s (by omega) hi2 hx.out rfl)
        clear hi
        go_wp2
        go_ret2
        exact ⟨_, by rw [HF.out]; rfl, HB.out⟩
      · rw [idxM_none hse] at hlook
        simp only [Option.getD_none, Option.isSome_none] at hlook
        have HLK := Lib.hid (idxM_none hse)
        have HD' := Lib.hid (dist_snoc HD.out hx.out (fun u hu e => hse (e ▸ hu)))
        cases hnb : nameB s with
        | false =>
          have HNB := Lib.hid hnb
          have HF : Hid (v = false) := bool_neg HV.out (fun h => by have := h.2.1 s (List.mem_of_getElem? hx.out); rw [hnb] at this; cases this)
          clear hnb
          go_wp2_with fail
          refine (isNameP_any s wr false HNB.out hsl).mono ?_
          rintro e w' ⟨rfl, hw⟩
          subst w'
          go_wp2
          go_ret2
          exact ⟨_, by rw [HF.out]; rfl, HB.out⟩
        | true =>
          have HNB := Lib.hid hnb
          clear hnb
          have HK' := Lib.hid (all_snoc (P := fun s => nameB s = true) HK.out hx.out HNB.out)
          have HTS := Lib.hid (idxM_snoc hx.out)
          go_wp2_with fail
          refine (isNameP_any s wr true HNB.out hsl).mono ?_
          rintro e w' ⟨rfl, hw⟩
          subst w'
          go_wp2_with (first
            | (at_mapUpdate
               refine wpList_putS _ rfl _ _ _ 129 rfl 9 3 Try.underlying9 Try.underlying129 w.heap.size (idxM (l.take k)) s (.int .i64 (k : Int)) rfl rfl rfl HM.out HLK.out ?_
               intro w7 m7 g7
               rw [← HTS.out] at m7
               have M7 := Lib.hid m7
               have G7 := Lib.hid g7
               clear m7 g7))
          have HB7 : Hid (Below w.heap.size w w7) := HB.out.grown G7.out HB.out.size (fun x hx => by injection hx with hx; omega)
          go_roundw
          case rel => exact ⟨k + 1, by omega, by go_num, HK', HD', M7, HB7⟩
          case measure => simp [intOf]; omega
    · have HF : Hid (v = true) := HV.out.2 ⟨⟨by rw [HN.out]; omega, by rw [HN.out]; omega⟩, all_take HK.out (by rw [HN.out]; omega), by have := HD.out; rwa [List.take_of_length_le (by rw [HN.out]; omega)] at this⟩
      go_wp2
      go_ret2
      exact ⟨_, by rw [HF.out]; rfl, HB.out⟩
set_option maxRecDepth 100000 in
theorem cpValid_any (x : Int) (w : World) : Calls Try.prog 119 #[.int .i64 x] w fun e w' => e = .returned (.bool (decide (0 ≤ x ∧ x ≤ 1114111))) ∧ w' = w := by
  go_enter Try.func119, Try.ntmps119
  go_wp2
  all_goals
    go_ret
    refine ⟨ret_bool ?_, rfl⟩
    rw [Bool.eq_iff_iff]
    simp
    try omega
set_option maxRecDepth 100000 in
theorem inside_any (x y z : Int) (w : World) (v : Bool) (hv : v = true ↔ 0 ≤ x ∧ x ≤ y ∧ y ≤ 1114111) : Calls Try.prog 111 #[.agg #[.int .i64 x, .int .i64 y, .int .i64 z]] w fun e w' => e = .returned (.bool v) ∧ Below w.heap.size w w' := by
  have HV := Lib.hid hv
  clear hv
  obtain ⟨w1, hw1, HB1, HK1⟩ := boxV w 66 #[.int .i64 x, .int .i64 y, .int .i64 z]
  have q0 := HK1.out.cell 0
  have q1 := HK1.out.cell 1
  have ql := HK1.out.lt
  simp at q0 q1
  by_cases g1 : 0 ≤ x ∧ x ≤ 1114111
  case neg =>
    have HF : Hid (v = false) := bool_neg HV.out (fun h => g1 (by omega))
    have d1 : decide (0 ≤ x ∧ x ≤ 1114111) = false := decide_eq_false g1
    go_enter Try.func111, Try.ntmps111
    go_upto_region 1 with fail
    rw [← hw1]
    clear hw1
    go_wp2_with fail
    refine (cpValid_any x w1).mono ?_
    rintro e w' ⟨rfl, hw⟩
    subst w'
    rw [d1]
    go_wp2
    go_ret
    exact ⟨ret_bool HF.out.symm, HB1.out⟩
  case pos =>
    have d1 : decide (0 ≤ x ∧ x ≤ 1114111) = true := decide_eq_true g1
    by_cases g2 : 0 ≤ y ∧ y ≤ 1114111
    case neg =>
      have HF : Hid (v = false) := bool_neg HV.out (fun h => g2 (by omega))
      have d2 : decide (0 ≤ y ∧ y ≤ 1114111) = false := decide_eq_false g2
      go_enter Try.func111, Try.ntmps111
      go_upto_region 1 with fail
      rw [← hw1]
      clear hw1
      go_wp2_with fail
      refine (cpValid_any x w1).mono ?_
      rintro e w' ⟨rfl, hw⟩
      subst w'
      rw [d1]
      go_wp2_with fail
      refine (cpValid_any y w1).mono ?_
      rintro e w' ⟨rfl, hw⟩
      subst w'
      rw [d2]
      go_wp2
      go_ret
      exact ⟨ret_bool HF.out.symm, HB1.out⟩
    case pos =>
      have d2 : decide (0 ≤ y ∧ y ≤ 1114111) = true := decide_eq_true g2
      have HF : Hid (v = decide (x ≤ y)) := by
        refine bool_iff ?_
        rw [HV.out, decide_eq_true_iff]
        omega
      go_enter Try.func111, Try.ntmps111
      go_upto_region 1 with fail
      rw [← hw1]
      clear hw1
      go_wp2_with fail
      refine (cpValid_any x w1).mono ?_
      rintro e w' ⟨rfl, hw⟩
      subst w'
      rw [d1]
      go_wp2_with fail
      refine (cpValid_any y w1).mono ?_
      rintro e w' ⟨rfl, hw⟩
      subst w'
      rw [d2]
      go_wp2
      go_ret
      exact ⟨ret_bool HF.out.symm, HB1.out⟩
end Go.Proofs.Ytkoojoogddndnaa
