/-
  Names of properties: ref10.Named, ref10.names; property.isName, property.index.
  property.index, inside, Valid; ref10.Valid.
  property.Valid; ref10.Valid.
  ref10.Valid.
-/
import Derived.Test.YtkoojoogddndnaaBw9
namespace Go.Proofs.Ytkoojoogddndnaa
open Go.RowKit Go.UtYtkoojoogddndnaa
attribute [local go_sem high] str_eql str_neq
set_option maxRecDepth 100000 in
set_option maxHeartbeats 1000000 in
theorem named10_any (s : Nm) (w : World) (v : Bool) (hv : nameB s = v) (hl : s.length ≤ maxLen) :
    Calls Try.prog 83 #[.string ⟨s.toArray⟩] w fun e w' => e = .returned (.bool v) ∧ w' = w := by
  have HV := Lib.hid hv
  have hsz := ba_size s
  obtain ⟨n, hn⟩ : ∃ n, s.length = n := ⟨_, rfl⟩
  have HN := Lib.hid hn
  rw [hn] at hsz hl
  unfold maxLen at hl
  clear hv hn
  by_cases g1 : n < 1
  · have HF : Hid (v = false) := by
      show _ = _
      rw [← HV.out]
      unfold nameB
      rw [HN.out, decide_eq_false (by omega : ¬ 1 ≤ n)]
      rfl
    go_enter Try.func83, Try.ntmps83
    go_wp2
    go_ret
    exact ⟨ret_bool HF.out.symm, rfl⟩
  by_cases g2 : 32 < n
  · have HF : Hid (v = false) := by
      show _ = _
      rw [← HV.out]
      unfold nameB
      rw [HN.out, decide_eq_false (by omega : ¬ n ≤ 32)]
      simp
    go_enter Try.func83, Try.ntmps83
    go_wp2
    go_ret
    exact ⟨ret_bool HF.out.symm, rfl⟩
  have d1 : decide (n < 1) = false := decide_eq_false g1
  have d2 : decide (32 < n) = false := decide_eq_false g2
  go_enter Try.func83, Try.ntmps83
  go_wp2
  go_loopw [3] (fun i wr => ∃ k : Nat, k ≤ n ∧ i = .int .i64 (k : Int) ∧ Hid ((s.take k).all nbyte = true) ∧ wr = w) (fun i _ => n - (intOf i).toNat)
  case atStart => exact ⟨0, by omega, rfl, by show _ = _; simp, rfl⟩
  case round =>
    obtain ⟨k, hk, rfl, HK, hw⟩ := hrel
    subst wr
    by_cases hkn : k < n
    · obtain ⟨b, hb⟩ : ∃ b, s[k]? = some b := ⟨_, List.getElem?_eq_getElem (by rw [HN.out]; exact hkn)⟩
      have HBK := Lib.hid hb
      have qI := run_idx (P := Try.prog) Try.underlying9 s k b hb
      have HNB := Lib.hid (nbyte_eq b)
      obtain ⟨bn, hbn⟩ : ∃ bn, b.toNat = bn := ⟨_, rfl⟩
      rw [hbn] at qI HNB
      clear hb hbn
      go_upto_region 7 with fail
      go_cut [48] from 22 to 48 (fun u wx => u = .bool (!nbyte b) ∧ wx = w)
      case first =>
        go_wp2
        all_goals
          go_meet
          case rel =>
            refine ⟨congrArg Value.bool ?_, rfl⟩
            rw [HNB.out, Bool.eq_iff_iff]
            simp
            omega
      case rest =>
        obtain ⟨hu, hw⟩ := hcut
        subst wc
        subst hu
        cases hnb : nbyte b with
        | true =>
          have HK' : Hid ((s.take (k + 1)).all nbyte = true) := (all_bytes HK.out HBK.out).trans hnb
          clear hnb
          go_wp2
          go_roundw
          case rel => exact ⟨k + 1, by omega, by go_num, HK', by trivial⟩
          case measure => simp [intOf]; omega
        | false =>
          have HF : Hid (v = false) := by
            show _ = _
            rw [← HV.out]
            unfold nameB
            rw [not_all HBK.out hnb]
            simp
          clear hnb
          go_wp2
          go_ret
          exact ⟨ret_bool HF.out.symm, rfl⟩
    · have HF : Hid (v = true) := by
        show _ = _
        have h1 := HK.out
        rw [List.take_of_length_le (by rw [HN.out]; omega)] at h1
        rw [← HV.out]
        unfold nameB
        rw [h1, HN.out, decide_eq_true (by omega : 1 ≤ n), decide_eq_true (by omega : n ≤ 32)]
        rfl
      go_wp2
      go_ret
      exact ⟨ret_bool HF.out.symm, rfl⟩
set_option maxRecDepth 100000 in
set_option maxHeartbeats 2000000 in
theorem names10_any (A : Option Addr) (c : Nat) (l : List Nm) (w : World) (h : StrsAt w w.heap.size A l) (_hc : l.length ≤ c) (_hm : c ≤ maxLen) (v : Bool) (hv : v = true ↔ namesOk l) :
    Calls Try.prog 122 #[.slice A l.length c] w fun e w' => e = .returned (.bool v) ∧ Below w.heap.size w w' := by
  have HV := Lib.hid hv
  have HR := Lib.hid h.1
  have HL := Lib.hid h.2
  obtain ⟨n, hn⟩ : ∃ n, l.length = n := ⟨_, rfl⟩
  have HN := Lib.hid hn
  rw [hn]
  clear hv h hn
  by_cases g1 : n < 1
  · have HF : Hid (v = false) := bool_neg HV.out (fun h => by have := h.1.1; rw [HN.out] at this; omega)
    go_enter Try.func122, Try.ntmps122
    go_wp2
    go_ret
    exact ⟨ret_bool HF.out.symm, Below.refl _ _⟩
  by_cases g2 : 250 < n
  · have HF : Hid (v = false) := bool_neg HV.out (fun h => by have := h.1.2; rw [HN.out] at this; omega)
    go_enter Try.func122, Try.ntmps122
    go_wp2
    go_ret
    exact ⟨ret_bool HF.out.symm, Below.refl _ _⟩
  have d1 : decide (n < 1) = false := decide_eq_false g1
  have d2 : decide (250 < n) = false := decide_eq_false g2
  go_enter Try.func122, Try.ntmps122
  go_wp2
  go_loopw [3] (fun i wr => ∃ k : Nat, k ≤ n ∧ i = .int .i64 (k : Int) ∧ Hid (∀ s ∈ l.take k, nameB s = true) ∧ Hid (distL (l.take k)) ∧ Hid (Below w.heap.size w wr)) (fun i _ => n - (intOf i).toNat)
  case atStart => exact ⟨0, by omega, rfl, fun s hs => by simp at hs, fun i j a b _ ha _ => by simp at ha, Below.refl _ _⟩
  case round =>
    obtain ⟨wo, hwo⟩ : ∃ x, x = wr := ⟨_, rfl⟩
    subst hwo
    obtain ⟨k, hk, rfl, HK, HD, HB⟩ := hrel
    by_cases hkn : k < n
    · obtain ⟨b, o, s, rfl, hb, hx, cc⟩ := (HR.out.below HB.out).at_str (k := k) (by rw [HN.out]; exact hkn)
      have hsl := HL.out s (List.mem_of_getElem? hx.out)
      have hbw : b < wo.heap.size := by have := HB.out.size; omega
      cases hnb : nameB s with
      | false =>
        have HF : Hid (v = false) := bool_neg HV.out (fun h => by have := h.2.1 s (List.mem_of_getElem? hx.out); rw [hnb] at this; cases this)
        have HNB := Lib.hid hnb
        clear hnb
        go_wp2_with fail
        refine (named10_any s wo false HNB.out hsl).mono ?_
        rintro e w' ⟨rfl, hw⟩
        subst w'
        go_wp2
        go_ret
        exact ⟨ret_bool HF.out.symm, HB.out⟩
      | true =>
        have HNB := Lib.hid hnb
        clear hnb
        have HK' := Lib.hid (all_snoc (P := fun s => nameB s = true) HK.out hx.out HNB.out)
        go_wp2_with fail
        refine (named10_any s wo true HNB.out hsl).mono ?_
        rintro e w' ⟨rfl, hw⟩
        subst w'
        clear cc
        go_wp2
        go_loopw [4] (fun i wr => ∃ j : Nat, j ≤ k ∧ i = .int .i64 (j : Int) ∧ Hid (∀ u ∈ l.take j, u ≠ s) ∧ Hid (∃ z, wr = wo.drewN z)) (fun i _ => k - (intOf i).toNat)
        case atStart => exact ⟨0, by omega, rfl, fun u hu => by simp at hu, 0, rfl⟩
        case round =>
          obtain ⟨j, hj, rfl, HJ, HZ⟩ := hrel
          obtain ⟨z, hz⟩ := HZ.out
          subst hz
          have HB3 := Lib.hid (below_drewN HB.out z)
          by_cases hjk : j < k
          · obtain ⟨b', o', u, hA, hb', hxu, ccu⟩ := (HR.out.below HB.out).at_str (k := j) (by rw [HN.out]; omega)
            injection hA with hA
            injection hA with e1 e2
            subst e1 e2
            obtain ⟨b', o', s', hA, _, hxs, ccs⟩ := (HR.out.below HB.out).at_str (k := k) (by rw [HN.out]; omega)
            injection hA with hA
            injection hA with e1 e2
            subst e1 e2
            obtain rfl : s' = s := by
              have := hxs.out
              rw [hx.out] at this
              injection this with this
              exact this.symm
            have hjn : j < n := by omega
            by_cases hus : u = s'
            · have HF : Hid (v = false) := bool_neg HV.out (fun h => dist_no hjk hxu.out hx.out hus h.2.2)
              subst hus
              go_wp2
              go_quiet (fail)
              go_wp2
              go_ret
              exact ⟨ret_bool HF.out.symm, below_drewN HB3.out _⟩
            · have HJ' := Lib.hid (all_snoc (P := fun u => u ≠ s') HJ.out hxu.out hus)
              have dd : decide (u = s') = false := decide_eq_false hus
              go_wp2
              go_quiet (fail)
              go_wp2
              go_roundw
              case rel => exact ⟨j + 1, by omega, by go_num, HJ', _, rfl⟩
              case measure => simp [intOf]; omega
          · obtain rfl : k = j := by omega
            have HD' := Lib.hid (dist_snoc HD.out hx.out HJ.out)
            go_wp2
            go_roundw
            case rel => exact ⟨k + 1, by omega, by go_num, HK', HD', HB3⟩
            case measure => simp [intOf]; omega
    · have HF : Hid (v = true) := HV.out.2 ⟨⟨by rw [HN.out]; omega, by rw [HN.out]; omega⟩, all_take HK.out (by rw [HN.out]; omega), by have := HD.out; rwa [List.take_of_length_le (by rw [HN.out]; omega)] at this⟩
      go_wp2
      go_ret
      exact ⟨ret_bool HF.out.symm, HB.out⟩
set_option maxRecDepth 100000 in
set_option maxHeartbeats 1000000 in
theorem isNameP_any (s : Nm) (w : World) (v : Bool) (hv : nameB s = v) (hl : s.length ≤ maxLen) :
    Calls Try.prog 118 #[.string ⟨s.toArray⟩] w fun e w' => e = .returned (.bool v) ∧ w' = w := by
  have HV := Lib.hid hv
  have hsz := ba_size s
  obtain ⟨n, hn⟩ : ∃ n, s.length = n := ⟨_, rfl⟩
  have HN := Lib.hid hn
  rw [hn] at hsz hl
  unfold maxLen at hl
  clear hv hn
  by_cases g1 : s = []
  · have HF : Hid (v = false) := by
      show _ = _
      rw [← HV.out, g1]
      rfl
    have d1 : decide (s = []) = true := decide_eq_true g1
    clear g1
    go_enter Try.func118, Try.ntmps118
    go_wp2
    go_ret
    exact ⟨ret_bool HF.out.symm, rfl⟩
  have hn1 : 1 ≤ n := by
    have := List.length_pos_iff.2 g1
    rw [HN.out] at this
    exact this
  have d1 : decide (s = []) = false := decide_eq_false g1
  clear g1
  by_cases g2 : 32 < n
  · have HF : Hid (v = false) := by
      show _ = _
      rw [← HV.out]
      unfold nameB
      rw [HN.out, decide_eq_false (by omega : ¬ n ≤ 32)]
      simp
    go_enter Try.func118, Try.ntmps118
    go_wp2
    go_ret
    exact ⟨ret_bool HF.out.symm, rfl⟩
  have d2 : decide (32 < n) = false := decide_eq_false g2
  go_enter Try.func118, Try.ntmps118
  go_wp2
  go_loopw [15] (fun i wr => ∃ k : Nat, k ≤ n ∧ i = .int .i64 (k : Int) ∧ Hid ((s.take k).all nbyte = true) ∧ wr = w) (fun i _ => n - (intOf i).toNat)
  case atStart => exact ⟨0, by omega, rfl, by show _ = _; simp, rfl⟩
  case round =>
    obtain ⟨k, hk, rfl, HK, hw⟩ := hrel
    subst wr
    by_cases hkn : k < n
    · obtain ⟨b, hb⟩ : ∃ b, s[k]? = some b := ⟨_, List.getElem?_eq_getElem (by rw [HN.out]; exact hkn)⟩
      have HBK := Lib.hid hb
      have qI := run_idx (P := Try.prog) Try.underlying9 s k b hb
      have HNB := Lib.hid (nbyte_eq b)
      obtain ⟨bn, hbn⟩ : ∃ bn, b.toNat = bn := ⟨_, rfl⟩
      rw [hbn] at qI HNB
      clear hb hbn
      obtain ⟨lt, hlt⟩ : ∃ lt : Bool, lt = ((decide (65 ≤ bn) && decide (bn ≤ 90)) || (decide (97 ≤ bn) && decide (bn ≤ 122))) := ⟨_, rfl⟩
      have HLT := Lib.hid hlt
      clear hlt
      go_upto_region 7 with fail
      go_cut [5] from 21 to 34 (fun u wx => u = .bool lt ∧ wx = w)
      case first =>
        go_wp2
        all_goals
          go_meet
          case rel =>
            refine ⟨congrArg Value.bool ?_, rfl⟩
            rw [HLT.out, Bool.eq_iff_iff]
            simp
            omega
      case rest =>
        obtain ⟨hu, hw⟩ := hcut
        subst wc
        subst hu
        go_upto_region 8 with fail
        go_cut [49] from 35 to 49 (fun u wx => u = .bool (!nbyte b) ∧ wx = w)
        case first =>
          cases lt with
          | true =>
            go_wp2
            all_goals
              go_meet
              case rel =>
                refine ⟨congrArg Value.bool ?_, rfl⟩
                have := HLT.out
                rw [HNB.out, ← this]
                simp
          | false =>
            go_wp2
            all_goals
              go_meet
              case rel =>
                refine ⟨congrArg Value.bool ?_, rfl⟩
                have := HLT.out
                rw [HNB.out, ← this, Bool.eq_iff_iff]
                simp
                omega
        case rest =>
          obtain ⟨hu, hw⟩ := hcut
          subst wc
          subst hu
          cases hnb : nbyte b with
          | true =>
            have HK' : Hid ((s.take (k + 1)).all nbyte = true) := (all_bytes HK.out HBK.out).trans hnb
            clear hnb
            go_wp2
            go_roundw
            case rel => exact ⟨k + 1, by omega, by go_num, HK', by trivial⟩
            case measure => simp [intOf]; omega
          | false =>
            have HF : Hid (v = false) := by
              show _ = _
              rw [← HV.out]
              unfold nameB
              rw [not_all HBK.out hnb]
              simp
            clear hnb
            go_wp2
            go_ret
            exact ⟨ret_bool HF.out.symm, rfl⟩
    · have HF : Hid (v = true) := by
        show _ = _
        have h1 := HK.out
        rw [List.take_of_length_le (by rw [HN.out]; omega)] at h1
        rw [← HV.out]
        unfold nameB
        rw [h1, HN.out, decide_eq_true hn1, decide_eq_true (by omega : n ≤ 32)]
        rfl
      go_wp2
      go_ret
      exact ⟨ret_bool HF.out.symm, rfl⟩
end Go.Proofs.Ytkoojoogddndnaa
namespace Go.UtYtkoojoogddndnaa
theorem spans_snoc {n k : Nat} {l : List (Int × Int × Int)} {s : Int × Int × Int} (h : spansOk n (l.take k)) (hk : l[k]? = some s) (h1 : spanOk n s) (h2 : ∀ p, 0 < k → l[k - 1]? = some p → joinOk p s) : spansOk n (l.take (k + 1)) := by
  obtain ⟨hk', e⟩ := List.getElem?_eq_some_iff.1 hk
  refine ⟨?_, fun i p q hp hq => ?_⟩
  · intro x hx
    rw [List.take_succ_eq_append_getElem hk', e] at hx
    rcases List.mem_append.1 hx with hx | hx
    · exact h.1 x hx
    · rw [List.mem_singleton.1 hx]
      exact h1
  · have hi : i + 1 < k + 1 := by
      have := (List.getElem?_eq_some_iff.1 hq).1
      rw [List.length_take] at this
      omega
    rw [List.getElem?_take, if_pos (by omega)] at hp hq
    by_cases hik : i + 1 < k
    · exact h.2 i p q (by rw [List.getElem?_take, if_pos (by omega)]; exact hp) (by rw [List.getElem?_take, if_pos hik]; exact hq)
    · obtain rfl : k = i + 1 := by omega
      rw [hk] at hq
      injection hq with hq
      subst hq
      exact h2 p (by omega) hp
end Go.UtYtkoojoogddndnaa
namespace Go.Proofs.Ytkoojoogddndnaa
open Go.RowKit Go.UtYtkoojoogddndnaa
attribute [local go_sem high] str_eql str_neq
/-- the names so far, with their indices -/
def idxM (l : List Nm) : List (Nm × Value) := (List.range l.length).map fun i => (l.getD i [], .int .i64 (i : Int))
theorem idxM_snoc {l : List Nm} {k : Nat} {s : Nm} (hk : l[k]? = some s) : idxM (l.take (k + 1)) = idxM (l.take k) ++ [(s, .int .i64 (k : Int))] := by
  obtain ⟨hk', e⟩ := List.getElem?_eq_some_iff.1 hk
  unfold idxM
  rw [List.length_take, List.length_take, Nat.min_eq_left (by omega), Nat.min_eq_left (by omega), List.range_succ, List.map_append]
  congr 1
  · apply List.map_congr_left
    intro i hi
    have := List.mem_range.1 hi
    simp only [List.getD_eq_getElem?_getD]
    rw [List.getElem?_take, List.getElem?_take, if_pos (by omega), if_pos (by omega)]
  · simp only [List.map_cons, List.map_nil, List.getD_eq_getElem?_getD]
    rw [List.getElem?_take, if_pos (by omega), hk]
    rfl
theorem idxM_none {l : List Nm} {s : Nm} (h : s ∉ l) : lkpS (idxM l) s = none := by
  unfold lkpS idxM
  rw [List.find?_eq_none.2]
  · rfl
  · intro x hx
    obtain ⟨i, hi, rfl⟩ := List.mem_map.1 hx
    have hi2 := List.mem_range.1 hi
    simp only [decide_eq_true_eq]
    intro e
    apply h
    rw [e, List.getD_eq_getElem?_getD, List.getElem?_eq_getElem hi2]
    exact List.getElem_mem hi2
theorem idxM_some {l : List Nm} {s : Nm} (h : s ∈ l) : ∃ i : Nat, lkpS (idxM l) s = some (.int .i64 (i : Int)) := by
  unfold lkpS
  cases hf : (idxM l).find? fun x => decide (s = x.1) with
  | none =>
    exfalso
    obtain ⟨i, hi, e⟩ := List.getElem_of_mem h
    have := List.find?_eq_none.1 hf (s, .int .i64 (i : Int)) (by
      unfold idxM
      refine List.mem_map.2 ⟨i, List.mem_range.2 hi, ?_⟩
      rw [List.getD_eq_getElem?_getD, List.getElem?_eq_getElem hi, e]
      rfl)
    simp at this
  | some x =>
    have := List.mem_of_find?_eq_some hf
    unfold idxM at this
    obtain ⟨i, _, rfl⟩ := List.mem_map.1 this
    exact ⟨i, rfl⟩
theorem int_zero (w : World) : (zeroValue 3).run Try.prog w = .ok (.int .i64 0) w := by
  simp [go_sem]
set_option maxRecDepth 100000 in
set_option maxHeartbeats 2000000 in
theorem index_any (A : Option Addr) (c : Nat) (l : List Nm) (w : World) (h : StrsAt w w.heap.size A l) (hc : l.length ≤ c) (_hm : c ≤ maxLen) (v : Bool) (hv : v = true ↔ namesOk l) :
    Calls Try.prog 110 #[.slice A l.length c] w fun e w' => ∃ mv : Value, e = .returned (.tuple #[mv, .bool v]) ∧ Below w.heap.size w w' := by
  have HV := Lib.hid hv
  have HR := Lib.hid h.1
  have HL := Lib.hid h.2
  obtain ⟨n, hn⟩ : ∃ n, l.length = n := ⟨_, rfl⟩
  have HN := Lib.hid hn
  rw [hn] at hc ⊢
  clear hv h hn
  have hmm := @run_makeMap Try.prog
  by_cases g1 : n = 0
  · have HF : Hid (v = false) := bool_neg HV.out (fun h => by have := h.1.1; rw [HN.out] at this; omega)
    subst g1
    go_enter Try.func110, Try.ntmps110
    go_wp2
    go_ret2
    exact ⟨_, by rw [HF.out]; rfl, Below.refl _ _⟩
  by_cases g2 : 250 < n
  · have HF : Hid (v = false) := bool_neg HV.out (fun h => by have := h.1.2; rw [HN.out] at this; omega)
    go_enter Try.func110, Try.ntmps110
    go_wp2
    go_ret2
    exact ⟨_, by rw [HF.out]; rfl, Below.refl _ _⟩
  have d1 : ((n : Int) == 0) = false := by simp; omega
  have d2 : decide (250 < n) = false := decide_eq_false g2
  obtain ⟨w1, hw1, HB1, HM1⟩ : ∃ u, u = w.alloc (.map #[] 0) ∧ Hid (Below w.heap.size w u) ∧ Hid (MapS u w.heap.size (idxM (l.take 0))) := ⟨_, rfl, (Below.refl _ _).alloc (Nat.le_refl _) _, MapS.new w⟩
  go_enter Try.func110, Try.ntmps110
  go_upto_region 4 with fail
  rw [← hw1]
  clear hw1
  go_wp2
  go_loopw [20] (fun i wr => ∃ k : Nat, k ≤ n ∧ i = .int .i64 (k : Int) ∧ Hid (∀ s ∈ l.take k, nameB s = true) ∧ Hid (distL (l.take k)) ∧ Hid (MapS wr w.heap.size (idxM (l.take k))) ∧ Hid (Below w.heap.size w wr)) (fun i _ => n - (intOf i).toNat)
  case atStart => exact ⟨0, by omega, rfl, fun s hs => by simp at hs, fun i j a b _ ha _ => by simp at ha, HM1, HB1⟩
  case round =>
    obtain ⟨k, hk, rfl, HK, HD, HM, HB⟩ := hrel
    by_cases hkn : k < n
    · obtain ⟨b, o, s, rfl, hb, hx, cc⟩ := (HR.out.below HB.out).at_str (k := k) (by rw [HN.out]; exact hkn)
      have hsl := HL.out s (List.mem_of_getElem? hx.out)
      have hbw : b < wr.heap.size := by have := HB.out.size; omega
      have hlook := look_s2 (w := wr) Try.underlying9 Try.underlying129 (int_zero wr) HM.out s
      by_cases hse : s ∈ l.take k
      · obtain ⟨i, hi⟩ := idxM_some hse
        rw [hi] at hlook
        simp only [Option.getD_some, Option.isSome_some] at hlook
        have HF : Hid (v = false) := bool_neg HV.out (fun h => by
          obtain ⟨i, hi, e⟩ := List.getElem_of_mem hse
          rw [List.length_take] at hi
          have hi2 : l[i]? = some s := by
            have := List.getElem?_eq_getElem (l := l.take k) (i := i) (by rw [List.length_take]; exact hi)
            rw [List.getElem?_take, if_pos (by omega), e] at this
            exact this
          exact h.2.2 i k s s (by omega) hi2 hx.out rfl)
        clear hi
        go_wp2
        go_ret2
        exact ⟨_, by rw [HF.out]; rfl, HB.out⟩
      · rw [idxM_none hse] at hlook
        simp only [Option.getD_none, Option.isSome_none] at hlook
        have HLK := Lib.hid (idxM_none hse)
        have HD' := Lib.hid (dist_snoc HD.out hx.out (fun u hu e => hse (e ▸ hu)))
        cases hnb : nameB s with
        | false =>
          have HNB := Lib.hid hnb
          have HF : Hid (v = false) := bool_neg HV.out (fun h => by have := h.2.1 s (List.mem_of_getElem? hx.out); rw [hnb] at this; cases this)
          clear hnb
          go_wp2_with fail
          refine (isNameP_any s wr false HNB.out hsl).mono ?_
          rintro e w' ⟨rfl, hw⟩
          subst w'
          go_wp2
          go_ret2
          exact ⟨_, by rw [HF.out]; rfl, HB.out⟩
        | true =>
          have HNB := Lib.hid hnb
          clear hnb
          have HK' := Lib.hid (all_snoc (P := fun s => nameB s = true) HK.out hx.out HNB.out)
          have HTS := Lib.hid (idxM_snoc hx.out)
          go_wp2_with fail
          refine (isNameP_any s wr true HNB.out hsl).mono ?_
          rintro e w' ⟨rfl, hw⟩
          subst w'
          go_wp2_with (first
            | (at_mapUpdate
               refine wpList_putS _ rfl _ _ _ 129 rfl 9 3 Try.underlying9 Try.underlying129 w.heap.size (idxM (l.take k)) s (.int .i64 (k : Int)) rfl rfl rfl HM.out HLK.out ?_
               intro w7 m7 g7
               rw [← HTS.out] at m7
               have M7 := Lib.hid m7
               have G7 := Lib.hid g7
               clear m7 g7))
          have HB7 : Hid (Below w.heap.size w w7) := HB.out.grown G7.out HB.out.size (fun x hx => by injection hx with hx; omega)
          go_roundw
          case rel => exact ⟨k + 1, by omega, by go_num, HK', HD', M7, HB7⟩
          case measure => simp [intOf]; omega
    · have HF : Hid (v = true) := HV.out.2 ⟨⟨by rw [HN.out]; omega, by rw [HN.out]; omega⟩, all_take HK.out (by rw [HN.out]; omega), by have := HD.out; rwa [List.take_of_length_le (by rw [HN.out]; omega)] at this⟩
      go_wp2
      go_ret2
      exact ⟨_, by rw [HF.out]; rfl, HB.out⟩
set_option maxRecDepth 100000 in
theorem cpValid_any (x : Int) (w : World) : Calls Try.prog 119 #[.int .i64 x] w fun e w' => e = .returned (.bool (decide (0 ≤ x ∧ x ≤ 1114111))) ∧ w' = w := by
  go_enter Try.func119, Try.ntmps119
  go_wp2
  all_goals
    go_ret
    refine ⟨ret_bool ?_, rfl⟩
    rw [Bool.eq_iff_iff]
    simp
    try omega
set_option maxRecDepth 100000 in
theorem inside_any (x y z : Int) (w : World) (v : Bool) (hv : v = true ↔ 0 ≤ x ∧ x ≤ y ∧ y ≤ 1114111) : Calls Try.prog 111 #[.agg #[.int .i64 x, .int .i64 y, .int .i64 z]] w fun e w' => e = .returned (.bool v) ∧ Below w.heap.size w w' := by
  have HV := Lib.hid hv
  clear hv
  obtain ⟨w1, hw1, HB1, HK1⟩ := boxV w 66 #[.int .i64 x, .int .i64 y, .int .i64 z]
  have q0 := HK1.out.cell 0
  have q1 := HK1.out.cell 1
  have ql := HK1.out.lt
  simp at q0 q1
  by_cases g1 : 0 ≤ x ∧ x ≤ 1114111
  case neg =>
    have HF : Hid (v = false) := bool_neg HV.out (fun h => g1 (by omega))
    have d1 : decide (0 ≤ x ∧ x ≤ 1114111) = false := decide_eq_false g1
    go_enter Try.func111, Try.ntmps111
    go_upto_region 1 with fail
    rw [← hw1]
    clear hw1
    go_wp2_with fail
    refine (cpValid_any x w1).mono ?_
    rintro e w' ⟨rfl, hw⟩
    subst w'
    rw [d1]
    go_wp2
    go_ret
    exact ⟨ret_bool HF.out.symm, HB1.out⟩
  case pos =>
    have d1 : decide (0 ≤ x ∧ x ≤ 1114111) = true := decide_eq_true g1
    by_cases g2 : 0 ≤ y ∧ y ≤ 1114111
    case neg =>
      have HF : Hid (v = false) := bool_neg HV.out (fun h => g2 (by omega))
      have d2 : decide (0 ≤ y ∧ y ≤ 1114111) = false := decide_eq_false g2
      go_enter Try.func111, Try.ntmps111
      go_upto_region 1 with fail
      rw [← hw1]
      clear hw1
      go_wp2_with fail
      refine (cpValid_any x w1).mono ?_
      rintro e w' ⟨rfl, hw⟩
      subst w'
      rw [d1]
      go_wp2_with fail
      refine (cpValid_any y w1).mono ?_
      rintro e w' ⟨rfl, hw⟩
      subst w'
      rw [d2]
      go_wp2
      go_ret
      exact ⟨ret_bool HF.out.symm, HB1.out⟩
    case pos =>
      have d2 : decide (0 ≤ y ∧ y ≤ 1114111) = true := decide_eq_true g2
      have HF : Hid (v = decide (x ≤ y)) := by
        refine bool_iff ?_
        rw [HV.out, decide_eq_true_iff]
        omega
      go_enter Try.func111, Try.ntmps111
      go_upto_region 1 with fail
      rw [← hw1]
      clear hw1
      go_wp2_with fail
      refine (cpValid_any x w1).mono ?_
      rintro e w' ⟨rfl, hw⟩
      subst w'
      rw [d1]
      go_wp2_with fail
      refine (cpValid_any y w1).mono ?_
      rintro e w' ⟨rfl, hw⟩
      subst w'
      rw [d2]
      go_wp2
      go_ret
      exact ⟨ret_bool HF.out.symm, HB1.out⟩
end Go.Proofs.Ytkoojoogddndnaa
namespace Go.Proofs.Ytkoojoogddndnaa
open Go.RowKit Go.UtYtkoojoogddndnaa
theorem blk3 {w : World} {g T : Nat} {a b c : Value} (h : Blk w g T #[a, b, c]) : w.cell? ⟨g, 0, none⟩ = some a ∧ w.cell? ⟨g, 1, none⟩ = some b ∧ w.cell? ⟨g, 2, none⟩ = some c ∧ g < w.heap.size := ⟨h.cell 0, h.cell 1, h.cell 2, h.lt⟩
set_option maxRecDepth 100000 in
set_option maxHeartbeats 4000000 in
theorem validP_raw (xn xs : Option Addr) (xcn xcs : Nat) (p : PR) (w : World) (h : PrAt w w.heap.size ⟨xn, xs, xcn, xcs⟩ p) (hsp : p.spans.length ≤ 100000) (v : Bool) (hv : v = true ↔ validP p) :
    Calls Try.prog 97 #[.agg #[.slice xn p.names.length xcn, .slice xs p.spans.length xcs]] w fun e w' => e = .returned (.bool v) ∧ Below w.heap.size w w' := by
  have HP := Lib.hid h
  have HV := Lib.hid hv
  have CN := fun (u : World) (hu : Below w.heap.size w u) (v' : Bool) (hv' : v' = true ↔ namesOk p.names) => index_any xn xcn p.names u (h.1.1.below hu).lt h.1.2.1 h.1.2.2 v' hv'
  obtain ⟨n, hn⟩ : ∃ n, p.names.length = n := ⟨_, rfl⟩
  obtain ⟨m, hm⟩ : ∃ n, p.spans.length = n := ⟨_, rfl⟩
  have HN := Lib.hid hn
  have HM := Lib.hid hm
  rw [hn] at CN
  replace CN := Lib.hid CN
  rw [hm] at hsp
  rw [hn, hm]
  have hc1 := h.1.2
  have hc2 := h.2.2
  rw [hn] at hc1
  rw [hm] at hc2
  unfold maxLen at hc1 hc2
  obtain ⟨w1, hw1, HB1, HK1⟩ := boxV w 41 #[.slice xn n xcn, .slice xs m xcs]
  obtain ⟨q0, q1, ql⟩ := blk2 HK1.out
  clear h hv hn hm
  by_cases gn : namesOk p.names
  case neg =>
    have HF : Hid (v = false) := bool_neg HV.out (fun h => gn h.1)
    go_enter Try.func97, Try.ntmps97
    go_upto_region 1 with fail
    rw [← hw1]
    clear hw1
    go_wp2_with fail
    refine (CN.out w1 HB1.out false ⟨fun h => (by cases h), fun h => absurd h gn⟩).mono ?_
    rintro e w2 ⟨mv, rfl, hb2⟩
    have HB2 := Lib.hid (HB1.out.trans (hb2.mono HB1.out.size))
    clear hb2
    go_wp2
    go_ret
    exact ⟨ret_bool HF.out.symm, HB2.out⟩
  case pos =>
    have HGN := Lib.hid gn
    have hn1 := gn.1
    rw [HN.out] at hn1
    go_enter Try.func97, Try.ntmps97
    go_upto_region 1 with fail
    rw [← hw1]
    clear hw1
    go_wp2_with fail
    refine (CN.out w1 HB1.out true ⟨fun _ => gn, fun _ => rfl⟩).mono ?_
    rintro e w2 ⟨mv, rfl, hb2⟩
    have HB2 := Lib.hid (HB1.out.trans (hb2.mono HB1.out.size))
    have HK2 := Lib.hid (HK1.out.after hb2)
    clear hb2 q0 q1 ql gn
    obtain ⟨q0, q1, ql⟩ := blk2 HK2.out
    go_wp2
    go_loopw [19] (fun i wr => ∃ k : Nat, k ≤ m ∧ i = .int .i64 (k : Int) ∧ Hid (spansOk n (p.spans.take k)) ∧ Hid (Blk wr w.heap.size 41 #[.slice xn n xcn, .slice xs m xcs]) ∧ Hid (Below w.heap.size w wr)) (fun i _ => m - (intOf i).toNat)
    case atStart => exact ⟨0, by omega, rfl, ⟨fun s hs => by simp at hs, fun i p s hp _ => by simp at hp⟩, HK2, HB2⟩
    case round =>
      obtain ⟨k, hk, rfl, HS, HK, HB⟩ := hrel
      obtain ⟨q0, q1, ql⟩ := blk2 HK.out
      have hbs := HB.out.size
      by_cases hkm : k < m
      · obtain ⟨b, o, lo, hi, va, rfl, hb, hx, cc0, cc1, cc2⟩ := (HP.out.2.1.below HB.out).at_spn (k := k) (by rw [HM.out]; exact hkm)
        have hbw : b < wr.heap.size := by omega
        obtain ⟨w3, hw3, HB3, HK3⟩ := boxV wr 66 #[.int .i64 lo, .int .i64 hi, .int .i64 va]
        have HBw3 := Lib.hid (HB.out.trans (HB3.out.mono hbs))
        have HKP3 := Lib.hid (HK.out.after HB3.out)
        go_upto_region 7 with fail
        rw [← hw3]
        clear hw3 q0 q1 ql
        obtain ⟨q0, q1, ql⟩ := blk2 HKP3.out
        obtain ⟨z0, z1, z2, zl⟩ := blk3 HK3.out
        have hbs3 := HBw3.out.size
        by_cases gi : 0 ≤ lo ∧ lo ≤ hi ∧ hi ≤ 1114111
        case neg =>
          have HF : Hid (v = false) := bool_neg HV.out (fun h => gi (by have := h.2.1 (lo, hi, va) (List.mem_of_getElem? hx.out); exact ⟨this.1, this.2.1, this.2.2.1⟩))
          go_wp2_with fail
          refine (inside_any lo hi va w3 false ⟨fun h => (by cases h), fun h => absurd h gi⟩).mono ?_
          rintro e w4 ⟨rfl, hb4⟩
          have HB4 := Lib.hid (HBw3.out.trans (hb4.mono hbs3))
          clear hb4
          go_wp2
          go_ret
          exact ⟨ret_bool HF.out.symm, HB4.out⟩
        case pos =>
          go_wp2_with fail
          refine (inside_any lo hi va w3 true ⟨fun _ => gi, fun _ => rfl⟩).mono ?_
          rintro e w4 ⟨rfl, hb4⟩
          have HB4 := Lib.hid (HBw3.out.trans (hb4.mono hbs3))
          have HKP4 := Lib.hid (HKP3.out.after hb4)
          have HKS4 := Lib.hid (HK3.out.after hb4)
          have hbs4 := HB4.out.size
          clear hb4 q0 q1 ql z0 z1 z2 zl
          obtain ⟨q0, q1, ql⟩ := blk2 HKP4.out
          obtain ⟨z0, z1, z2, zl⟩ := blk3 HKS4.out
          by_cases gv : va < 1
          · have HF : Hid (v = false) := bool_neg HV.out (fun h => by have := (h.2.1 (lo, hi, va) (List.mem_of_getElem? hx.out)).2.2.2.1; simp at this; omega)
            go_wp2
            go_ret
            exact ⟨ret_bool HF.out.symm, HB4.out⟩
          have dv : decide (va < 1) = false := decide_eq_false gv
          by_cases gw : (n : Int) ≤ va
          · have HF : Hid (v = false) := bool_neg HV.out (fun h => by have := (h.2.1 (lo, hi, va) (List.mem_of_getElem? hx.out)).2.2.2.2; rw [HN.out] at this; simp at this; omega)
            go_wp2
            go_ret
            exact ⟨ret_bool HF.out.symm, HB4.out⟩
          have dw : decide ((n : Int) ≤ va) = false := decide_eq_false gw
          have HSO : Hid (spanOk n (lo, hi, va)) := ⟨gi.1, gi.2.1, gi.2.2, by simp; omega, by simp; omega⟩
          cases k with
          | zero =>
            have HS' : Hid (spansOk n (p.spans.take (0 + 1))) := spans_snoc HS.out hx.out HSO.out (fun _ h => by omega)
            go_wp2
            go_roundw
            case rel => exact ⟨1, by omega, by go_num, HS', HKP4, HB4⟩
            case measure => simp [intOf]; omega
          | succ j =>
            obtain ⟨b', o', lo', hi', va', hA', hb', hx', dd0, dd1, dd2⟩ := (HP.out.2.1.below HB4.out).at_spn (k := j) (by rw [HM.out]; omega)
            injection hA' with hA2
            injection hA2 with e1 e2
            subst e1 e2
            have hbw4 : b < w4.heap.size := by omega
            have k1 : (((j + 1 : Nat) : Int) == 0) = false := by simp; omega
            have k2 : IntKind.i64.wrap (((j + 1 : Nat) : Int) - 1) = (j : Int) := by rw [show ((j + 1 : Nat) : Int) - 1 = (j : Int) by omega]; exact IntWalk.i64_in _ (by omega)
            have k3 : (j : Int) < (m : Int) := by omega
            have hpr := (HS.out.1 (lo', hi', va') (by
              refine List.mem_of_getElem? (i := j) ?_
              rw [List.getElem?_take, if_pos (by omega)]
              exact hx'.out))
            have hhi : 0 ≤ hi' ∧ hi' ≤ 1114111 := ⟨by have := hpr.1; have := hpr.2.1; simp at *; omega, hpr.2.2.1⟩
            have k4 : IntKind.i64.wrap (hi' + 1) = hi' + 1 := IntWalk.i64_in _ (by omega)
            obtain ⟨w5, hw5, HB5, HK5⟩ := boxV w4 66 #[.int .i64 lo', .int .i64 hi', .int .i64 va']
            have HBw5 := Lib.hid (HB4.out.trans (HB5.out.mono hbs4))
            have HKP5 := Lib.hid (HKP4.out.after HB5.out)
            have HKS5 := Lib.hid (HKS4.out.after HB5.out)
            clear hpr
            go_upto_region 11 with fail
            rw [← hw5]
            clear hw5 q0 q1 ql z0 z1 z2 zl
            obtain ⟨z0, z1, z2, zl⟩ := blk3 HKS5.out
            obtain ⟨y0, y1, y2, yl⟩ := blk3 HK5.out
            by_cases gj : joinOk (lo', hi', va') (lo, hi, va)
            case neg =>
              have HF : Hid (v = false) := bool_neg HV.out (fun h => gj (h.2.2 j _ _ hx'.out hx.out))
              by_cases g1 : lo ≤ hi'
              · have e1 : decide (lo ≤ hi') = true := decide_eq_true g1
                go_wp2
                go_ret
                exact ⟨ret_bool HF.out.symm, HBw5.out⟩
              · have e1 : decide (lo ≤ hi') = false := decide_eq_false g1
                have g2 : lo = hi' + 1 ∧ va = va' := by
                  refine Classical.byContradiction fun hc => gj ⟨by simp; omega, ?_⟩
                  simpa using hc
                obtain ⟨h1, h2⟩ := g2
                subst h2
                have e2 : (lo == hi' + 1) = true := by simp [h1]
                clear h1
                go_wp2
                go_ret
                exact ⟨ret_bool HF.out.symm, HBw5.out⟩
            case pos =>
              have HJ := Lib.hid gj
              have HS' : Hid (spansOk n (p.spans.take (j + 1 + 1))) := spans_snoc HS.out hx.out HSO.out (fun q _ hq => by
                rw [Nat.add_sub_cancel, hx'.out] at hq
                injection hq with hq
                subst hq
                exact HJ.out)
              have e1 : decide (lo ≤ hi') = false := decide_eq_false (by have := gj.1; simp at this; omega)
              by_cases g2 : lo = hi' + 1
              · have e2 : (lo == hi' + 1) = true := by simp [g2]
                have e3 : (va == va') = false := by
                  have := gj.2
                  simp at this ⊢
                  exact this g2
                clear gj g2
                go_wp2
                go_roundw
                case rel => exact ⟨j + 1 + 1, by omega, by go_num, HS', HKP5, HBw5⟩
                case measure => simp [intOf]; omega
              · have e2 : (lo == hi' + 1) = false := by simp [g2]
                clear gj g2
                go_wp2
                go_roundw
                case rel => exact ⟨j + 1 + 1, by omega, by go_num, HS', HKP5, HBw5⟩
                case measure => simp [intOf]; omega
      · have HF : Hid (v = true) := HV.out.2 ⟨HGN.out, by have := HS.out; rw [List.take_of_length_le (by rw [HM.out]; omega)] at this; rw [HN.out]; exact this⟩
        go_wp2
        go_ret
        exact ⟨ret_bool HF.out.symm, HB.out⟩
theorem validP_any (x : PA) (p : PR) (w : World) (h : PrAt w w.heap.size x p) (hsp : p.spans.length ≤ 100000) (v : Bool) (hv : v = true ↔ validP p) :
    Calls Try.prog 97 #[x.val p] w fun e w' => e = .returned (.bool v) ∧ Below w.heap.size w w' := validP_raw x.n x.s x.cn x.cs p w h hsp v hv
end Go.Proofs.Ytkoojoogddndnaa
namespace Go.Proofs.Ytkoojoogddndnaa
open Go.RowKit Go.UtYtkoojoogddndnaa
set_option maxRecDepth 100000 in
set_option maxHeartbeats 4000000 in
theorem rvalidP_raw (xn xs : Option Addr) (xcn xcs : Nat) (p : PR) (w : World) (h : PrAt w w.heap.size ⟨xn, xs, xcn, xcs⟩ p) (hsp : p.spans.length ≤ 100000) (v : Bool) (hv : v = true ↔ validP p) :
    Calls Try.prog 120 #[.agg #[.slice xn p.names.length xcn, .slice xs p.spans.length xcs]] w fun e w' => e = .returned (.bool v) ∧ Below w.heap.size w w' := by
  have HP := Lib.hid h
  have HV := Lib.hid hv
  have CN := fun (u : World) (hu : Below w.heap.size w u) (v' : Bool) (hv' : v' = true ↔ namesOk p.names) => names10_any xn xcn p.names u (h.1.1.below hu).lt h.1.2.1 h.1.2.2 v' hv'
  obtain ⟨n, hn⟩ : ∃ n, p.names.length = n := ⟨_, rfl⟩
  obtain ⟨m, hm⟩ : ∃ n, p.spans.length = n := ⟨_, rfl⟩
  have HN := Lib.hid hn
  have HM := Lib.hid hm
  rw [hn] at CN
  replace CN := Lib.hid CN
  rw [hm] at hsp
  rw [hn, hm]
  have hc1 := h.1.2
  have hc2 := h.2.2
  rw [hn] at hc1
  rw [hm] at hc2
  unfold maxLen at hc1 hc2
  obtain ⟨w1, hw1, HB1, HK1⟩ := boxV w 41 #[.slice xn n xcn, .slice xs m xcs]
  obtain ⟨q0, q1, ql⟩ := blk2 HK1.out
  clear h hv hn hm
  by_cases gn : namesOk p.names
  case neg =>
    have HF : Hid (v = false) := bool_neg HV.out (fun h => gn h.1)
    go_enter Try.func120, Try.ntmps120
    go_upto_region 1 with fail
    rw [← hw1]
    clear hw1
    go_wp2_with fail
    refine (CN.out w1 HB1.out false ⟨fun h => (by cases h), fun h => absurd h gn⟩).mono ?_
    rintro e w2 ⟨rfl, hb2⟩
    have HB2 := Lib.hid (HB1.out.trans (hb2.mono HB1.out.size))
    clear hb2
    go_wp2
    go_ret
    exact ⟨ret_bool HF.out.symm, HB2.out⟩
  case pos =>
    have HGN := Lib.hid gn
    have hn1 := gn.1
    rw [HN.out] at hn1
    go_enter Try.func120, Try.ntmps120
    go_upto_region 1 with fail
    rw [← hw1]
    clear hw1
    go_wp2_with fail
    refine (CN.out w1 HB1.out true ⟨fun _ => gn, fun _ => rfl⟩).mono ?_
    rintro e w2 ⟨rfl, hb2⟩
    have HB2 := Lib.hid (HB1.out.trans (hb2.mono HB1.out.size))
    have HK2 := Lib.hid (HK1.out.after hb2)
    clear hb2 q0 q1 ql gn
    obtain ⟨q0, q1, ql⟩ := blk2 HK2.out
    go_wp2
    go_loopw [3] (fun i wr => ∃ k : Nat, k ≤ m ∧ i = .int .i64 (k : Int) ∧ Hid (spansOk n (p.spans.take k)) ∧ Hid (Blk wr w.heap.size 41 #[.slice xn n xcn, .slice xs m xcs]) ∧ Hid (Below w.heap.size w wr)) (fun i _ => m - (intOf i).toNat)
    case atStart => exact ⟨0, by omega, rfl, ⟨fun s hs => by simp at hs, fun i p s hp _ => by simp at hp⟩, HK2, HB2⟩
    case round =>
      obtain ⟨k, hk, rfl, HS, HK, HB⟩ := hrel
      obtain ⟨q0, q1, ql⟩ := blk2 HK.out
      have hbs := HB.out.size
      by_cases hkm : k < m
      · obtain ⟨b, o, lo, hi, va, rfl, hb, hx, cc0, cc1, cc2⟩ := (HP.out.2.1.below HB.out).at_spn (k := k) (by rw [HM.out]; exact hkm)
        have hbw : b < wr.heap.size := by omega
        obtain ⟨w3, hw3, HB3, HK3⟩ := boxV wr 66 #[.int .i64 lo, .int .i64 hi, .int .i64 va]
        have HBw3 := Lib.hid (HB.out.trans (HB3.out.mono hbs))
        have HKP3 := Lib.hid (HK.out.after HB3.out)
        go_upto_region 7 with fail
        rw [← hw3]
        clear hw3 q0 q1 ql
        obtain ⟨q0, q1, ql⟩ := blk2 HKP3.out
        obtain ⟨z0, z1, z2, zl⟩ := blk3 HK3.out
        have hbs3 := HBw3.out.size
        by_cases g0 : lo < 0
        · have HF : Hid (v = false) := bool_neg HV.out (fun h => by have := (h.2.1 (lo, hi, va) (List.mem_of_getElem? hx.out)).1; simp at this; omega)
          go_wp2
          go_ret
          exact ⟨ret_bool HF.out.symm, HBw3.out⟩
        have d0 : decide (lo < 0) = false := decide_eq_false g0
        by_cases g1 : hi < lo
        · have HF : Hid (v = false) := bool_neg HV.out (fun h => by have := (h.2.1 (lo, hi, va) (List.mem_of_getElem? hx.out)).2.1; simp at this; omega)
          go_wp2
          go_ret
          exact ⟨ret_bool HF.out.symm, HBw3.out⟩
        have d1 : decide (hi < lo) = false := decide_eq_false g1
        by_cases g2 : 1114111 < hi
        · have HF : Hid (v = false) := bool_neg HV.out (fun h => by have := (h.2.1 (lo, hi, va) (List.mem_of_getElem? hx.out)).2.2.1; simp at this; omega)
          go_wp2
          go_ret
          exact ⟨ret_bool HF.out.symm, HBw3.out⟩
        have d2 : decide (1114111 < hi) = false := decide_eq_false g2
        by_cases gv : va < 1
        · have HF : Hid (v = false) := bool_neg HV.out (fun h => by have := (h.2.1 (lo, hi, va) (List.mem_of_getElem? hx.out)).2.2.2.1; simp at this; omega)
          go_wp2
          go_ret
          exact ⟨ret_bool HF.out.symm, HBw3.out⟩
        have dv : decide (va < 1) = false := decide_eq_false gv
        by_cases gw : (n : Int) ≤ va
        · have HF : Hid (v = false) := bool_neg HV.out (fun h => by have := (h.2.1 (lo, hi, va) (List.mem_of_getElem? hx.out)).2.2.2.2; rw [HN.out] at this; simp at this; omega)
          go_wp2
          go_ret
          exact ⟨ret_bool HF.out.symm, HBw3.out⟩
        have dw : decide ((n : Int) ≤ va) = false := decide_eq_false gw
        have HSO : Hid (spanOk n (lo, hi, va)) := ⟨by simp; omega, by simp; omega, by simp; omega, by simp; omega, by simp; omega⟩
        have hbw3 : b < w3.heap.size := by omega
        cases k with
        | zero =>
          have HS' : Hid (spansOk n (p.spans.take (0 + 1))) := spans_snoc HS.out hx.out HSO.out (fun _ h => by omega)
          have k0 : decide ((0 : Int) < ((0 : Nat) : Int)) = false := by simp
          go_wp2
          go_quiet (fail)
          go_wp2
          go_roundw
          case rel => exact ⟨1, by omega, by go_num, HS', HKP3.out.drewN _, below_drewN HBw3.out _⟩
          case measure => simp [intOf]; omega
        | succ j =>
          obtain ⟨b', o', lo', hi', va', hA', hb', hx', dd0, dd1, dd2⟩ := (HP.out.2.1.below HBw3.out).at_spn (k := j) (by rw [HM.out]; omega)
          injection hA' with hA2
          injection hA2 with e1 e2
          subst e1 e2
          have k1 : decide ((0 : Int) < ((j + 1 : Nat) : Int)) = true := decide_eq_true (by omega)
          have k0 : (0 : Int) < ((j + 1 : Nat) : Int) := by omega
          have k2 : IntKind.i64.wrap (((j + 1 : Nat) : Int) - 1) = (j : Int) := by rw [show ((j + 1 : Nat) : Int) - 1 = (j : Int) by omega]; exact IntWalk.i64_in _ (by omega)
          have k3 : (j : Int) < (m : Int) := by omega
          have hpr := (HS.out.1 (lo', hi', va') (by
            refine List.mem_of_getElem? (i := j) ?_
            rw [List.getElem?_take, if_pos (by omega)]
            exact hx'.out))
          have hhi : 0 ≤ hi' ∧ hi' ≤ 1114111 := ⟨by have := hpr.1; have := hpr.2.1; simp at *; omega, hpr.2.2.1⟩
          have k4 : IntKind.i64.wrap (hi' + 1) = hi' + 1 := IntWalk.i64_in _ (by omega)
          clear hpr
          by_cases gj : joinOk (lo', hi', va') (lo, hi, va)
          case neg =>
            have HF : Hid (v = false) := bool_neg HV.out (fun h => gj (h.2.2 j _ _ hx'.out hx.out))
            by_cases g1 : lo ≤ hi'
            · have e1 : decide (lo ≤ hi') = true := decide_eq_true g1
              go_wp2
              go_quiet (fail)
              go_wp2
              go_ret
              exact ⟨ret_bool HF.out.symm, below_drewN HBw3.out _⟩
            · have e1 : decide (lo ≤ hi') = false := decide_eq_false g1
              have g2 : lo = hi' + 1 ∧ va = va' := by
                refine Classical.byContradiction fun hc => gj ⟨by simp; omega, ?_⟩
                simpa using hc
              obtain ⟨h1, h2⟩ := g2
              subst h2
              have e2 : (lo == hi' + 1) = true := by simp [h1]
              clear h1
              go_wp2
              go_quiet (fail)
              go_wp2
              go_ret
              exact ⟨ret_bool HF.out.symm, below_drewN HBw3.out _⟩
          case pos =>
            have HJ := Lib.hid gj
            have HS' : Hid (spansOk n (p.spans.take (j + 1 + 1))) := spans_snoc HS.out hx.out HSO.out (fun q _ hq => by
              rw [Nat.add_sub_cancel, hx'.out] at hq
              injection hq with hq
              subst hq
              exact HJ.out)
            have e1 : decide (lo ≤ hi') = false := decide_eq_false (by have := gj.1; simp at this; omega)
            by_cases g2 : lo = hi' + 1
            · have e2 : (lo == hi' + 1) = true := by simp [g2]
              have e3 : (va == va') = false := by
                have := gj.2
                simp at this ⊢
                exact this g2
              clear gj g2
              go_wp2
              go_quiet (fail)
              go_wp2
              go_roundw
              case rel => exact ⟨j + 1 + 1, by omega, by go_num, HS', HKP3.out.drewN _, below_drewN HBw3.out _⟩
              case measure => simp [intOf]; omega
            · have e2 : (lo == hi' + 1) = false := by simp [g2]
              clear gj g2
              go_wp2
              go_quiet (fail)
              go_wp2
              go_roundw
              case rel => exact ⟨j + 1 + 1, by omega, by go_num, HS', HKP3.out.drewN _, below_drewN HBw3.out _⟩
              case measure => simp [intOf]; omega
      · have HF : Hid (v = true) := HV.out.2 ⟨HGN.out, by have := HS.out; rw [List.take_of_length_le (by rw [HM.out]; omega)] at this; rw [HN.out]; exact this⟩
        go_wp2
        go_ret
        exact ⟨ret_bool HF.out.symm, HB.out⟩
theorem rvalidP_any (x : PA) (p : PR) (w : World) (h : PrAt w w.heap.size x p) (hsp : p.spans.length ≤ 100000) (v : Bool) (hv : v = true ↔ validP p) :
    Calls Try.prog 120 #[x.val p] w fun e w' => e = .returned (.bool v) ∧ Below w.heap.size w w' := rvalidP_raw x.n x.s x.cn x.cs p w h hsp v hv
end Go.Proofs.Ytkoojoogddndnaa
