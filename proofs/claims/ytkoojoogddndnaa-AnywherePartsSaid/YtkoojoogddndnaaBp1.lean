/-
  Names of properties: ref10.Named, ref10.names; property.isName, property.index.
-/
import Derived.Test.YtkoojoogddndnaaBw9
namespace Go.Proofs.Ytkoojoogddndnaa
open Go.RowKit Go.UtYtkoojoogddndnaa
attribute [local go_sem high] str_eql str_neq
set_option maxRecDepth 100000 in
set_option maxHeartbeats 1000000 in
theorem named10_any (s : Nm) (w : World) (v : Bool) (hv : nameB s = v) (hl : s.length ≤ maxLen) :
    Calls Try.prog 83 #[.string ⟨s.toArray⟩] w fun e w' => e = .returned (.bool v) ∧ w' = w := by
  have HV := Lib.hid hv
  have hsz := ba_size s
  obtain ⟨n, hn⟩ : ∃ n, s.length = n := ⟨_, rfl⟩
  have HN := Lib.hid hn
  rw [hn] at hsz hl
  unfold maxLen at hl
  clear hv hn
  by_cases g1 : n < 1
  · have HF : Hid (v = false) := by
      show _ = _
      rw [← HV.out]
      unfold nameB
      rw [HN.out, decide_eq_false (by omega : ¬ 1 ≤ n)]
      rfl
    go_enter Try.func83, Try.ntmps83
    go_wp2
    go_ret
    exact ⟨ret_bool HF.out.symm, rfl⟩
  by_cases g2 : 32 < n
  · have HF : Hid (v = false) := by
      show _ = _
      rw [← HV.out]
      unfold nameB
      rw [HN.out, decide_eq_false (by omega : ¬ n ≤ 32)]
      simp
    go_enter Try.func83, Try.ntmps83
    go_wp2
    go_ret
    exact ⟨ret_bool HF.out.symm, rfl⟩
  have d1 : decide (n < 1) = false := decide_eq_false g1
  have d2 : decide (32 < n) = false := decide_eq_false g2
  go_enter Try.func83, Try.ntmps83
  go_wp2
  go_loopw [3] (fun i wr => ∃ k : Nat, k ≤ n ∧ i = .int .i64 (k : Int) ∧ Hid ((s.take k).all nbyte = true) ∧ wr = w) (fun i _ => n - (intOf i).toNat)
  case atStart => exact ⟨0, by omega, rfl, by show _ = _; simp, rfl⟩
  case round =>
    obtain ⟨k, hk, rfl, HK, hw⟩ := hrel
    subst wr
    by_cases hkn : k < n
    · obtain ⟨b, hb⟩ : ∃ b, s[k]? = some b := ⟨_, List.getElem?_eq_getElem (by rw [HN.out]; exact hkn)⟩
      have HBK := Lib.hid hb
      have qI := run_idx (P := Try.prog) Try.underlying9 s k b hb
      have HNB := Lib.hid (nbyte_eq b)
      obtain ⟨bn, hbn⟩ : ∃ bn, b.toNat = bn := ⟨_, rfl⟩
      rw [hbn] at qI HNB
      clear hb hbn
      go_upto_region 7 with fail
      go_cut [48] from 22 to 48 (fun u wx => u = .bool (!nbyte b) ∧ wx = w)
      case first =>
        go_wp2
        all_goals
          go_meet
          case rel =>
            refine ⟨congrArg Value.bool ?_, rfl⟩
            rw [HNB.out, Bool.eq_iff_iff]
            simp
            omega
      case rest =>
        obtain ⟨hu, hw⟩ := hcut
        subst wc
        subst hu
        cases hnb : nbyte b with
        | true =>
          have HK' : Hid ((s.take (k + 1)).all nbyte = true) := (all_bytes HK.out HBK.out).trans hnb
          clear hnb
          go_wp2
          go_roundw
          case rel => exact ⟨k + 1, by omega, by go_num, HK', by trivial⟩
          case measure => simp [intOf]; omega
        | false =>
          have HF : Hid (v = false) := by
            show _ = _
            rw [← HV.out]
            unfold nameB
            rw [not_all HBK.out hnb]
            simp
          clear hnb
          go_wp2
          go_ret
          exact ⟨ret_bool HF.out.symm, rfl⟩
    · have HF : Hid (v = true) := by
        show _ = _
        have h1 := HK.out
        rw [List.take_of_length_le (by rw [HN.out]; omega)] at h1
        rw [← HV.out]
        unfold nameB
        rw [h1, HN.out, decide_eq_true (by omega : 1 ≤ n), decide_eq_true (by omega : n ≤ 32)]
        rfl
      go_wp2
      go_ret
      exact ⟨ret_bool HF.out.symm, rfl⟩
set_option maxRecDepth 100000 in
set_option maxHeartbeats 2000000 in
theorem names10_any (A : Option Addr) (c : Nat) (l : List Nm) (w : World) (h : StrsAt w w.heap.size A l) (hc : l.length ≤ c) (hm : c ≤ maxLen) (v : Bool) (hv : v = true ↔ namesOk l) :
    Calls Try.prog 122 #[.slice A l.length c] w fun e w' => e = .returned (.bool v) ∧ Below w.heap.size w w' := by
  have HV := Lib.hid hv
  have HR := Lib.hid h.1
  have HL := Lib.hid h.2
  obtain ⟨n, hn⟩ : ∃ n, l.length = n := ⟨_, rfl⟩
  have HN := Lib.hid hn
  rw [hn] at hc ⊢
  unfold maxLen at hm
  clear hv h hn
  by_cases g1 : n < 1
  · have HF : Hid (v = false) := bool_neg HV.out (fun h => by have := h.1.1; rw [HN.out] at this; omega)
    go_enter Try.func122, Try.ntmps122
    go_wp2
    go_ret
    exact ⟨ret_bool HF.out.symm, Below.refl _ _⟩
  by_cases g2 : 250 < n
  · have HF : Hid (v = false) := bool_neg HV.out (fun h => by have := h.1.2; rw [HN.out] at this; omega)
    go_enter Try.func122, Try.ntmps122
    go_wp2
    go_ret
    exact ⟨ret_bool HF.out.symm, Below.refl _ _⟩
  have d1 : decide (n < 1) = false := decide_eq_false g1
  have d2 : decide (250 < n) = false := decide_eq_false g2
  go_enter Try.func122, Try.ntmps122
  go_wp2
  go_loopw [3] (fun i wr => ∃ k : Nat, k ≤ n ∧ i = .int .i64 (k : Int) ∧ Hid (∀ s ∈ l.take k, nameB s = true) ∧ Hid (distL (l.take k)) ∧ Hid (Below w.heap.size w wr)) (fun i _ => n - (intOf i).toNat)
  case atStart => exact ⟨0, by omega, rfl, fun s hs => by simp at hs, fun i j a b _ ha _ => by simp at ha, Below.refl _ _⟩
  case round =>
    obtain ⟨wo, hwo⟩ : ∃ x, x = wr := ⟨_, rfl⟩
    subst hwo
    obtain ⟨k, hk, rfl, HK, HD, HB⟩ := hrel
    by_cases hkn : k < n
    · obtain ⟨b, o, s, rfl, hb, hx, cc⟩ := (HR.out.below HB.out).at_str (k := k) (by rw [HN.out]; exact hkn)
      have hsl := HL.out s (List.mem_of_getElem? hx.out)
      have hbw : b < wo.heap.size := by have := HB.out.size; omega
      cases hnb : nameB s with
      | false =>
        have HF : Hid (v = false) := bool_neg HV.out (fun h => by have := h.2.1 s (List.mem_of_getElem? hx.out); rw [hnb] at this; cases this)
        have HNB := Lib.hid hnb
        clear hnb
        go_wp2_with fail
        refine (named10_any s wo false HNB.out hsl).mono ?_
        rintro e w' ⟨rfl, hw⟩
        subst w'
        go_wp2
        go_ret
        exact ⟨ret_bool HF.out.symm, HB.out⟩
      | true =>
        have HNB := Lib.hid hnb
        clear hnb
        have HK' := Lib.hid (all_snoc (P := fun s => nameB s = true) HK.out hx.out HNB.out)
        go_wp2_with fail
        refine (named10_any s wo true HNB.out hsl).mono ?_
        rintro e w' ⟨rfl, hw⟩
        subst w'
        clear cc
        go_wp2
        go_loopw [4] (fun i wr => ∃ j : Nat, j ≤ k ∧ i = .int .i64 (j : Int) ∧ Hid (∀ u ∈ l.take j, u ≠ s) ∧ Hid (∃ z, wr = wo.drewN z)) (fun i _ => k - (intOf i).toNat)
        case atStart => exact ⟨0, by omega, rfl, fun u hu => by simp at hu, 0, rfl⟩
        case round =>
          obtain ⟨j, hj, rfl, HJ, HZ⟩ := hrel
          obtain ⟨z, hz⟩ := HZ.out
          subst hz
          have HB3 := Lib.hid (below_drewN HB.out z)
          by_cases hjk : j < k
          · obtain ⟨b', o', u, hA, hb', hxu, ccu⟩ := (HR.out.below HB.out).at_str (k := j) (by rw [HN.out]; omega)
            injection hA with hA
            injection hA with e1 e2
            subst e1 e2
            obtain ⟨b', o', s', hA, _, hxs, ccs⟩ := (HR.out.below HB.out).at_str (k := k) (by rw [HN.out]; omega)
            injection hA with hA
            injection hA with e1 e2
            subst e1 e2
            obtain rfl : s' = s := by
              have := hxs.out
              rw [hx.out] at this
              injection this with this
              exact this.symm
            have hjn : j < n := by omega
            by_cases hus : u = s'
            · have HF : Hid (v = false) := bool_neg HV.out (fun h => dist_no hjk hxu.out hx.out hus h.2.2)
              subst hus
              go_wp2
              go_quiet (fail)
              go_wp2
              go_ret
              exact ⟨ret_bool HF.out.symm, below_drewN HB3.out _⟩
            · have HJ' := Lib.hid (all_snoc (P := fun u => u ≠ s') HJ.out hxu.out hus)
              have dd : decide (u = s') = false := decide_eq_false hus
              go_wp2
              go_quiet (fail)
              go_wp2
              go_roundw
              case rel => exact ⟨j + 1, by omega, by go_num, HJ', _, rfl⟩
              case measure => simp [intOf]; omega
          · obtain rfl : k = j := by omega
            have HD' := Lib.hid (dist_snoc HD.out hx.out HJ.out)
            go_wp2
            go_roundw
            case rel => exact ⟨k + 1, by omega, by go_num, HK', HD', HB3⟩
            case measure => simp [intOf]; omega
    · have HF : Hid (v = true) := HV.out.2 ⟨⟨by rw [HN.out]; omega, by rw [HN.out]; omega⟩, all_take HK.out (by rw [HN.out]; omega), by have := HD.out; rwa [List.take_of_length_le (by rw [HN.out]; omega)] at this⟩
      go_wp2
      go_ret
      exact ⟨ret_bool HF.out.symm, HB.out⟩
set_option maxRecDepth 100000 in
set_option maxHeartbeats 1000000 in
theorem isNameP_any (s : Nm) (w : World) (v : Bool) (hv : nameB s = v) (hl : s.length ≤ maxLen) :
    Calls Try.prog 118 #[.string ⟨s.toArray⟩] w fun e w' => e = .returned (.bool v) ∧ w' = w := by
  have HV := Lib.hid hv
  have hsz := ba_size s
  obtain ⟨n, hn⟩ : ∃ n, s.length = n := ⟨_, rfl⟩
  have HN := Lib.hid hn
  rw [hn] at hsz hl
  unfold maxLen at hl
  clear hv hn
  by_cases g1 : s = []
  · have HF : Hid (v = false) := by
      show _ = _
      rw [← HV.out, g1]
      rfl
    have d1 : decide (s = []) = true := decide_eq_true g1
    clear g1
    go_enter Try.func118, Try.ntmps118
    go_wp2
    go_ret
    exact ⟨ret_bool HF.out.symm, rfl⟩
  have hn1 : 1 ≤ n := by
    have := List.length_pos_iff.2 g1
    rw [HN.out] at this
    exact this
  have d1 : decide (s = []) = false := decide_eq_false g1
  clear g1
  by_cases g2 : 32 < n
  · have HF : Hid (v = false) := by
      show _ = _
      rw [← HV.out]
      unfold nameB
      rw [HN.out, decide_eq_false (by omega : ¬ n ≤ 32)]
      simp
    go_enter Try.func118, Try.ntmps118
    go_wp2
    go_ret
    exact ⟨ret_bool HF.out.symm, rfl⟩
  have d2 : decide (32 < n) = false := decide_eq_false g2
  go_enter Try.func118, Try.ntmps118
  go_wp2
  go_loopw [15] (fun i wr => ∃ k : Nat, k ≤ n ∧ i = .int .i64 (k : Int) ∧ Hid ((s.take k).all nbyte = true) ∧ wr = w) (fun i _ => n - (intOf i).toNat)
  case atStart => exact ⟨0, by omega, rfl, by show _ = _; simp, rfl⟩
  case round =>
    obtain ⟨k, hk, rfl, HK, hw⟩ := hrel
    subst wr
    by_cases hkn : k < n
    · obtain ⟨b, hb⟩ : ∃ b, s[k]? = some b := ⟨_, List.getElem?_eq_getElem (by rw [HN.out]; exact hkn)⟩
      have HBK := Lib.hid hb
      have qI := run_idx (P := Try.prog) Try.underlying9 s k b hb
      have HNB := Lib.hid (nbyte_eq b)
      obtain ⟨bn, hbn⟩ : ∃ bn, b.toNat = bn := ⟨_, rfl⟩
      rw [hbn] at qI HNB
      clear hb hbn
      obtain ⟨lt, hlt⟩ : ∃ lt : Bool, lt = ((decide (65 ≤ bn) && decide (bn ≤ 90)) || (decide (97 ≤ bn) && decide (bn ≤ 122))) := ⟨_, rfl⟩
      have HLT := Lib.hid hlt
      clear hlt
      go_upto_region 7 with fail
      go_cut [5] from 21 to 34 (fun u wx => u = .bool lt ∧ wx = w)
      case first =>
        go_wp2
        all_goals
          go_meet
          case rel =>
            refine ⟨congrArg Value.bool ?_, rfl⟩
            rw [HLT.out, Bool.eq_iff_iff]
            simp
            omega
      case rest =>
        obtain ⟨hu, hw⟩ := hcut
        subst wc
        subst hu
        go_upto_region 8 with fail
        go_cut [49] from 35 to 49 (fun u wx => u = .bool (!nbyte b) ∧ wx = w)
        case first =>
          cases lt with
          | true =>
            go_wp2
            all_goals
              go_meet
              case rel =>
                refine ⟨congrArg Value.bool ?_, rfl⟩
                have := HLT.out
                rw [HNB.out, ← this]
                simp
          | false =>
            go_wp2
            all_goals
              go_meet
              case rel =>
                refine ⟨congrArg Value.bool ?_, rfl⟩
                have := HLT.out
                rw [HNB.out, ← this, Bool.eq_iff_iff]
                simp
                omega
        case rest =>
          obtain ⟨hu, hw⟩ := hcut
          subst wc
          subst hu
          cases hnb : nbyte b with
          | true =>
            have HK' : Hid ((s.take (k + 1)).all nbyte = true) := (all_bytes HK.out HBK.out).trans hnb
            clear hnb
            go_wp2
            go_roundw
            case rel => exact ⟨k + 1, by omega, by go_num, HK', by trivial⟩
            case measure => simp [intOf]; omega
          | false =>
            have HF : Hid (v = false) := by
              show _ = _
              rw [← HV.out]
              unfold nameB
              rw [not_all HBK.out hnb]
              simp
            clear hnb
            go_wp2
            go_ret
            exact ⟨ret_bool HF.out.symm, rfl⟩
    · have HF : Hid (v = true) := by
        show _ = _
        have h1 := HK.out
        rw [List.take_of_length_le (by rw [HN.out]; omega)] at h1
        rw [← HV.out]
        unfold nameB
        rw [h1, HN.out, decide_eq_true hn1, decide_eq_true (by omega : n ≤ 32)]
        rfl
      go_wp2
      go_ret
      exact ⟨ret_bool HF.out.symm, rfl⟩
end Go.Proofs.Ytkoojoogddndnaa
