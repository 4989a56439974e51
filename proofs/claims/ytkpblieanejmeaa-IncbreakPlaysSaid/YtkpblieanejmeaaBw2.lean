/-
  Names: ref11.Name, ref29.word, ref29.named.
-/
import Derived.Test.YtkpblieanejmeaaBw1
namespace Go.UtYtkpblieanejmeaa
open Go.RowKit
theorem ba_toList (s : Nm) : (ByteArray.mk s.toArray).toList = s := by
  rw [ByteArray.toList_eq]
theorem nm_beq (s u : Nm) : (s == u) = decide (s = u) := by
  by_cases h : s = u
  · subst h; simp
  · rw [decide_eq_false h, beq_false_of_ne h]
theorem str_eql (t : TypeId) (s u : Nm) : binOp .eql t (.string ⟨s.toArray⟩) (.string ⟨u.toArray⟩) = pure (.bool (decide (s = u))) := by
  rw [binOp_string_eql, ba_toList, ba_toList, nm_beq]
theorem str_neq (t : TypeId) (s u : Nm) : binOp .neq t (.string ⟨s.toArray⟩) (.string ⟨u.toArray⟩) = pure (.bool (!decide (s = u))) := by
  rw [binOp_string_neq, ba_toList, ba_toList, nm_beq]
theorem run_idx {P : Program} {t : TypeId} (ht : P.underlying t = some .string) (s : Nm) (k : Nat) (b : UInt8) (h : s[k]? = some b) (w : World) : (Instr.index t (.string ⟨s.toArray⟩) (.int .i64 (k : Int))).run P w = .ok (.int .u8 (b.toNat : Int)) w := by
  obtain ⟨h1, h2⟩ := List.getElem?_eq_some_iff.1 h
  have h3 : (0 : Int) ≤ (k : Int) ∧ (k : Int) < ((ByteArray.mk s.toArray).size : Int) := ⟨by omega, by show _ < ((s.toArray.size : Nat) : Int); simp; omega⟩
  rw [run_index_string w t _ .i64 (k : Int) ht, dif_pos h3]
  have h4 : ∀ (j : Nat) (hj : j < (ByteArray.mk s.toArray).size), j = k → (ByteArray.mk s.toArray)[j] = b := fun j hj e => by
    subst e
    exact h2
  rw [h4 _ _ (Int.toNat_natCast k)]
theorem all_bytes {s : Nm} {k : Nat} {b : UInt8} (h : (s.take k).all nbyte = true) (hk : s[k]? = some b) : (s.take (k + 1)).all nbyte = nbyte b := by
  obtain ⟨hk', e⟩ := List.getElem?_eq_some_iff.1 hk
  rw [List.take_succ_eq_append_getElem hk', e, List.all_append, h]
  simp
theorem nbyte_eq (b : UInt8) : nbyte b = ((decide (65 ≤ b.toNat) && decide (b.toNat ≤ 90)) || (decide (97 ≤ b.toNat) && decide (b.toNat ≤ 122)) || (decide (48 ≤ b.toNat) && decide (b.toNat ≤ 57)) || decide (b.toNat = 95)) := by
  unfold nbyte
  have h : (b == 95) = decide (b.toNat = 95) := by
    by_cases h : b = 95
    · subst h; rfl
    · rw [beq_false_of_ne h, decide_eq_false]
      intro e
      exact h (UInt8.toNat_inj.1 e)
  rw [h]
  rfl
theorem not_all {s : Nm} {k : Nat} {b : UInt8} (hk : s[k]? = some b) (hb : nbyte b = false) : s.all nbyte = false := by
  rw [List.all_eq_false]
  exact ⟨b, List.mem_of_getElem? hk, by simp [hb]⟩
end Go.UtYtkpblieanejmeaa
namespace Go.Proofs.Ytkpblieanejmeaa
open Go.RowKit Go.UtYtkpblieanejmeaa
attribute [local go_sem high] str_eql str_neq
theorem ba_size (s : Nm) : (ByteArray.mk s.toArray).size = s.length := by show s.toArray.size = _; simp
set_option maxRecDepth 100000 in
set_option maxHeartbeats 1000000 in
theorem name11_any (s : Nm) (w : World) (v : Bool) (hv : nameB s = v) (hl : s.length ≤ maxLen) :
    Calls Try.prog 72 #[.string ⟨s.toArray⟩] w fun e w' => e = .returned (.bool v) ∧ w' = w := by
  have HV := Lib.hid hv
  have hsz := ba_size s
  obtain ⟨n, hn⟩ : ∃ n, s.length = n := ⟨_, rfl⟩
  have HN := Lib.hid hn
  rw [hn] at hsz hl
  unfold maxLen at hl
  clear hv hn
  go_enter Try.func72, Try.ntmps72
  go_wp2
  go_loopw [3] (fun i wr => ∃ k : Nat, k ≤ n ∧ i = .int .i64 (k : Int) ∧ Hid ((s.take k).all nbyte = true) ∧ wr = w) (fun i _ => n - (intOf i).toNat)
  case atStart => exact ⟨0, by omega, rfl, by show _ = _; simp, rfl⟩
  case round =>
    obtain ⟨k, hk, rfl, HK, hw⟩ := hrel
    subst wr
    by_cases hkn : k < n
    · obtain ⟨b, hb⟩ : ∃ b, s[k]? = some b := ⟨_, List.getElem?_eq_getElem (by rw [HN.out]; exact hkn)⟩
      have HBK := Lib.hid hb
      have qI := run_idx (P := Try.prog) Try.underlying9 s k b hb
      have HNB := Lib.hid (nbyte_eq b)
      obtain ⟨bn, hbn⟩ : ∃ bn, b.toNat = bn := ⟨_, rfl⟩
      rw [hbn] at qI HNB
      clear hb hbn
      go_upto_region 5 with fail
      go_cut [40] from 14 to 40 (fun u wx => u = .bool (!nbyte b) ∧ wx = w)
      case first =>
        go_wp2
        all_goals
          go_meet
          case rel =>
            refine ⟨congrArg Value.bool ?_, rfl⟩
            rw [HNB.out, Bool.eq_iff_iff]
            simp
            omega
      case rest =>
        obtain ⟨hu, hw⟩ := hcut
        subst wc
        subst hu
        cases hnb : nbyte b with
        | true =>
          have HK' : Hid ((s.take (k + 1)).all nbyte = true) := (all_bytes HK.out HBK.out).trans hnb
          clear hnb
          go_wp2
          go_roundw
          case rel => exact ⟨k + 1, by omega, by go_num, HK', by trivial⟩
          case measure => simp [intOf]; omega
        | false =>
          have HF : Hid (v = false) := by
            show _ = _
            rw [← HV.out]
            unfold nameB
            rw [not_all HBK.out hnb]
            simp
          clear hnb
          go_wp2
          go_ret
          exact ⟨ret_bool HF.out.symm, rfl⟩
    · have HF : Hid (v = (decide (1 ≤ n) && decide (n ≤ 32))) := by
        show _ = _
        have h1 := HK.out
        rw [List.take_of_length_le (by rw [HN.out]; omega)] at h1
        rw [← HV.out]
        unfold nameB
        rw [h1, HN.out]
        simp
      by_cases g1 : 1 ≤ n
      · have d1 : decide (1 ≤ n) = true := decide_eq_true g1
        go_wp2
        go_ret
        refine ⟨ret_bool ?_, rfl⟩
        rw [HF.out, d1]
        simp <;> omega
      · have d1 : decide (1 ≤ n) = false := decide_eq_false g1
        go_wp2
        go_ret
        refine ⟨ret_bool ?_, rfl⟩
        rw [HF.out, d1]
        simp <;> omega
set_option maxRecDepth 100000 in
set_option maxHeartbeats 1000000 in
theorem word29_any (s : Nm) (w : World) (v : Bool) (hv : decide (s ∈ bwords) = v) :
    Calls Try.prog 73 #[.string ⟨s.toArray⟩] w fun e w' => e = .returned (.bool v) ∧ Below w.heap.size w w' := by
  have HV := Lib.hid hv
  clear hv
  obtain ⟨w1, hw1, HB1, HK1⟩ := boxV w 9 (strs bwords).toArray
  unfold strs strV bwords at hw1
  simp only [List.map_cons, List.map_nil] at hw1
  go_enter Try.func73, Try.ntmps73
  go_upto_region 2 with fail
  rw [← hw1]
  clear hw1
  have HRW : Hid (Row w1 w1.heap.size (some ⟨w.heap.size, 0, none⟩) (strs bwords)) := HK1.out.row (by simp)
  go_wp2
  go_loopw [4] (fun i wr => ∃ k : Nat, k ≤ 7 ∧ i = .int .i64 (k : Int) ∧ Hid (∀ u ∈ bwords.take k, u ≠ s) ∧ wr = w1) (fun i _ => 7 - (intOf i).toNat)
  case atStart => exact ⟨0, by omega, rfl, fun u hu => by simp at hu, rfl⟩
  case round =>
    obtain ⟨k, hk, rfl, HK, hw⟩ := hrel
    subst wr
    by_cases hkn : k < 7
    · obtain ⟨b, o, u, hA, hb, hx, cc⟩ := HRW.out.at_str (k := k) (by simp [bwords]; omega)
      injection hA with hA
      injection hA with e1 e2
      subst e1 e2
      rw [Nat.zero_add] at cc
      by_cases hu : u = s
      · subst hu
        have HF : Hid (v = true) := by
          show _ = _
          rw [← HV.out]
          exact decide_eq_true (List.mem_of_getElem? hx.out)
        go_wp2
        go_ret
        exact ⟨ret_bool HF.out.symm, HB1.out⟩
      · have HK' := Lib.hid (all_snoc (P := fun u => u ≠ s) HK.out hx.out hu)
        have dd : decide (u = s) = false := decide_eq_false hu
        go_wp2
        go_roundw
        case rel => exact ⟨k + 1, by omega, by go_num, HK', by trivial⟩
        case measure => simp [intOf]; omega
    · have HF : Hid (v = false) := by
        show _ = _
        rw [← HV.out]
        exact decide_eq_false (fun h => all_take HK.out (by simp [bwords]; omega) s h rfl)
      go_wp2
      go_ret
      exact ⟨ret_bool HF.out.symm, HB1.out⟩
theorem dist_snoc {l : List Nm} {k : Nat} {s : Nm} (h : distL (l.take k)) (hk : l[k]? = some s) (hs : ∀ u ∈ l.take k, u ≠ s) : distL (l.take (k + 1)) := by
  obtain ⟨hk', e⟩ := List.getElem?_eq_some_iff.1 hk
  intro i j a b hij ha hb
  have hj : j < k + 1 := by
    have := (List.getElem?_eq_some_iff.1 hb).1
    rw [List.length_take] at this
    omega
  rw [List.getElem?_take, if_pos (by omega)] at ha hb
  have hia : (l.take k)[i]? = some a := by rw [List.getElem?_take, if_pos (by omega)]; exact ha
  by_cases hjk : j < k
  · exact h i j a b hij hia (by rw [List.getElem?_take, if_pos hjk]; exact hb)
  · obtain rfl : j = k := by omega
    rw [hk] at hb
    injection hb with hb
    subst hb
    exact hs a (List.mem_of_getElem? hia)
theorem dist_no {l : List Nm} {i j : Nat} {s u : Nm} (hij : i < j) (hi : l[i]? = some s) (hj : l[j]? = some u) (h : s = u) : ¬ distL l := fun hd => hd i j s u hij hi hj h
set_option maxRecDepth 100000 in
set_option maxHeartbeats 2000000 in
theorem named29_any (A : Option Addr) (c : Nat) (l : List Nm) (w : World) (h : StrsAt w w.heap.size A l) (hc : l.length ≤ c) (hm : c ≤ maxLen) (v : Bool) (hv : v = true ↔ clsOk l) :
    Calls Try.prog 53 #[.slice A l.length c] w fun e w' => e = .returned (.bool v) ∧ Below w.heap.size w w' := by
  have HV := Lib.hid hv
  have HR := Lib.hid h.1
  have HL := Lib.hid h.2
  obtain ⟨n, hn⟩ : ∃ n, l.length = n := ⟨_, rfl⟩
  have HN := Lib.hid hn
  rw [hn] at hc ⊢
  unfold maxLen at hm
  clear hv h hn
  go_enter Try.func53, Try.ntmps53
  go_wp2
  go_loopw [3] (fun i wr => ∃ k : Nat, k ≤ n ∧ i = .int .i64 (k : Int) ∧ Hid (∀ s ∈ l.take k, nameB s = true ∧ s ∉ bwords) ∧ Hid (distL (l.take k)) ∧ Hid (Below w.heap.size w wr)) (fun i _ => n - (intOf i).toNat)
  case atStart => exact ⟨0, by omega, rfl, fun s hs => by simp at hs, fun i j a b _ ha _ => by simp at ha, Below.refl _ _⟩
  case round =>
    obtain ⟨wo, hwo⟩ : ∃ x, x = wr := ⟨_, rfl⟩
    subst hwo
    obtain ⟨k, hk, rfl, HK, HD, HB⟩ := hrel
    by_cases hkn : k < n
    · obtain ⟨b, o, s, rfl, hb, hx, cc⟩ := (HR.out.below HB.out).at_str (k := k) (by rw [HN.out]; exact hkn)
      have hsl := HL.out s (List.mem_of_getElem? hx.out)
      have hbw : b < wo.heap.size := by have := HB.out.size; omega
      cases hnb : nameB s with
      | false =>
        have HF : Hid (v = false) := bool_neg HV.out (fun h => by have := (h.2.1 s (List.mem_of_getElem? hx.out)).1; rw [hnb] at this; cases this)
        have HNB := Lib.hid hnb
        clear hnb
        go_wp2_with fail
        refine (name11_any s wo false HNB.out hsl).mono ?_
        rintro e w' ⟨rfl, hw⟩
        subst w'
        go_wp2
        go_ret
        exact ⟨ret_bool HF.out.symm, HB.out⟩
      | true =>
        have HNB := Lib.hid hnb
        clear hnb
        by_cases hwd : s ∈ bwords
        · have HF : Hid (v = false) := bool_neg HV.out (fun h => (h.2.1 s (List.mem_of_getElem? hx.out)).2 hwd)
          go_wp2_with fail
          refine (name11_any s wo true HNB.out hsl).mono ?_
          rintro e w' ⟨rfl, hw⟩
          subst w'
          go_wp2_with fail
          refine (word29_any s wo true (decide_eq_true hwd)).mono ?_
          rintro e w2 ⟨rfl, hb2⟩
          have HB2 := Lib.hid (HB.out.trans (hb2.mono HB.out.size))
          clear hb2
          go_wp2
          go_ret
          exact ⟨ret_bool HF.out.symm, HB2.out⟩
        · have HK' := Lib.hid (all_snoc (P := fun s => nameB s = true ∧ s ∉ bwords) HK.out hx.out ⟨HNB.out, hwd⟩)
          go_wp2_with fail
          refine (name11_any s wo true HNB.out hsl).mono ?_
          rintro e w' ⟨rfl, hw⟩
          subst w'
          go_wp2_with fail
          refine (word29_any s wo false (decide_eq_false hwd)).mono ?_
          rintro e w2 ⟨rfl, hb2⟩
          have HB2 := Lib.hid (HB.out.trans (hb2.mono HB.out.size))
          clear hb2 cc
          go_wp2
          go_loopw [4] (fun i wr => ∃ j : Nat, j ≤ k ∧ i = .int .i64 (j : Int) ∧ Hid (∀ u ∈ l.take j, u ≠ s) ∧ Hid (∃ z, wr = w2.drewN z)) (fun i _ => k - (intOf i).toNat)
          case atStart => exact ⟨0, by omega, rfl, fun u hu => by simp at hu, 0, rfl⟩
          case round =>
            obtain ⟨j, hj, rfl, HJ, HZ⟩ := hrel
            obtain ⟨z, hz⟩ := HZ.out
            subst hz
            have HB3 := Lib.hid (below_drewN HB2.out z)
            by_cases hjk : j < k
            · obtain ⟨b', o', u, hA, hb', hxu, ccu⟩ := (HR.out.below HB3.out).at_str (k := j) (by rw [HN.out]; omega)
              injection hA with hA
              injection hA with e1 e2
              subst e1 e2
              obtain ⟨b', o', s', hA, _, hxs, ccs⟩ := (HR.out.below HB3.out).at_str (k := k) (by rw [HN.out]; omega)
              injection hA with hA
              injection hA with e1 e2
              subst e1 e2
              obtain rfl : s' = s := by
                have := hxs.out
                rw [hx.out] at this
                injection this with this
                exact this.symm
              have hb2 : b < (w2.drewN z).heap.size := by have := HB3.out.size; omega
              have hjn : j < n := by omega
              have ccu2 : w2.cell? ⟨b, o + j, none⟩ = some (.string ⟨u.toArray⟩) := ccu
              have ccs2 : w2.cell? ⟨b, o + k, none⟩ = some (.string ⟨s'.toArray⟩) := ccs
              have hb3 : b < w2.heap.size := hb2
              by_cases hus : u = s'
              · have HF : Hid (v = false) := bool_neg HV.out (fun h => dist_no hjk hxu.out hx.out hus h.2.2)
                subst hus
                go_wp2
                go_quiet (fail)
                go_wp2
                go_ret
                exact ⟨ret_bool HF.out.symm, by have := HB2.out; exact ⟨this.os, this.tape, this.output, this.size, this.block⟩⟩
              · have HJ' := Lib.hid (all_snoc (P := fun u => u ≠ s') HJ.out hxu.out hus)
                have dd : decide (u = s') = false := decide_eq_false hus
                go_wp2
                go_quiet (fail)
                go_wp2
                go_roundw
                case rel => exact ⟨j + 1, by omega, by go_num, HJ', _, rfl⟩
                case measure => simp [intOf]; omega
            · obtain rfl : k = j := by omega
              have HD' := Lib.hid (dist_snoc HD.out hx.out HJ.out)
              go_wp2
              go_roundw
              case rel => exact ⟨k + 1, by omega, by go_num, HK', HD', HB3⟩
              case measure => simp [intOf]; omega
    · have HF : Hid (v = true ↔ (1 ≤ n ∧ n ≤ 60)) := by
        have h1 := HK.out
        have h2 := HD.out
        rw [List.take_of_length_le (by rw [HN.out]; omega)] at h1 h2
        show _ ↔ _
        rw [HV.out]
        unfold clsOk
        rw [HN.out]
        exact ⟨fun h => h.1, fun h => ⟨h, h1, h2⟩⟩
      by_cases g1 : 1 ≤ n
      · by_cases g2 : n ≤ 60
        · have HF' : Hid (v = true) := HF.out.2 ⟨g1, g2⟩
          have d1 : decide (1 ≤ n) = true := decide_eq_true g1
          have d2 : decide ((n : Int) ≤ 60) = true := decide_eq_true (by omega)
          go_wp2
          go_ret
          exact ⟨ret_bool HF'.out.symm, HB.out⟩
        · have HF' : Hid (v = false) := bool_neg HF.out (fun h => g2 h.2)
          have d1 : decide (1 ≤ n) = true := decide_eq_true g1
          have d2 : decide ((n : Int) ≤ 60) = false := decide_eq_false (by omega)
          go_wp2
          go_ret
          exact ⟨ret_bool HF'.out.symm, HB.out⟩
      · have HF' : Hid (v = false) := bool_neg HF.out (fun h => g1 h.1)
        have d1 : decide (1 ≤ n) = false := decide_eq_false g1
        go_wp2
        go_ret
        exact ⟨ret_bool HF'.out.symm, HB.out⟩
end Go.Proofs.Ytkpblieanejmeaa
