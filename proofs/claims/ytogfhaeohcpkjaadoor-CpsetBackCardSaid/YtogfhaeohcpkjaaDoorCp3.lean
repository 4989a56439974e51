/-
  codepoint.Parse, ref01.Parse: walks, for every string; codepoint.Compare, codepoint.Equal, cmp.Compare: walks, for any two lists.
-/
import Derived.Test.YtogfhaeohcpkjaaDoorProg
import Derived.Test.YtogfhaeohcpkjaaDoorBase
import Derived.Test.YtogfhaeohcpkjaaDoorHexa
import Derived.Test.YtogfhaeohcpkjaaDoorCp1
import Derived.Test.YtogfhaeohcpkjaaDoorCp2
import Derived.WalkKit
import Derived.Deep.QuietTactic
import Derived.BigQuiet
import Derived.Outline
import Derived.IntWalk
namespace Go.Proofs.YtogfhaeohcpkjaaDoor
open Go.RowKit Go.UtYtogfhaeohcpkjaaDoor
def RetPair (w : World) (r f : Int) (e : Ending) (w' : World) : Prop := e = .returned (.tuple #[.int .i64 r, .int .i64 f]) ∧ Below w.heap.size w w'
theorem parse_len {l : List UInt8} (h : l.length < 4 ∨ 6 < l.length) : parse l = (0, 3) := by unfold parse; rw [if_pos h]
theorem parse_none {l : List UInt8} (h : num 0 l = none) : parse l = (0, 3) := by
  unfold parse
  rw [h]
  simp
theorem parse_ne {l : List UInt8} {a : Int} (h : num 0 l = some a) (hn : hexS a ≠ l) : parse l = (0, 3) := by
  unfold parse
  rw [h]
  simp [hn]
theorem parse_eq {l : List UInt8} {a : Int} (hl : ¬ (l.length < 4 ∨ 6 < l.length)) (h : num 0 l = some a) (hn : hexS a = l) : parse l = (a, 0) := by
  unfold parse
  rw [if_neg hl, h]
  simp [hn]
theorem take_cons {l : List UInt8} {k : Nat} (h : k < l.length) : l.take (k + 1) = l.take k ++ [l[k]] := List.take_succ_eq_append_getElem h
theorem num_fail {l : List UInt8} {k : Nat} (h : k < l.length) (hv : val (l[k].toNat : Int) < 0) : num 0 l = none := by
  have := num_bad (l.take k) (l.drop (k + 1)) l[k] 0 hv
  rwa [← List.drop_eq_getElem_cons h, List.take_append_drop] at this
theorem num_step {l : List UInt8} {k : Nat} {a : Int} (h : k < l.length) (hv : ¬ val (l[k].toNat : Int) < 0) (hn : num 0 (l.take k) = some a) : num 0 (l.take (k + 1)) = some (a * 16 + val (l[k].toNat : Int)) := by
  rw [take_cons h, num_snoc _ _ _ _ hn, if_neg hv]
theorem num_le {l : List UInt8} {k : Nat} {a : Int} (hk : k ≤ 6) (hn : num 0 (l.take k) = some a) : 0 ≤ a ∧ a ≤ 16777215 := by
  have h := num_bd _ _ _ hn (by omega)
  refine ⟨h.1, ?_⟩
  have h2 : (l.take k).length ≤ 6 := by simp; omega
  have h3 : (16 : Int) ^ (l.take k).length ≤ 16 ^ 6 := by
    have := Nat.pow_le_pow_right (n := 16) (by omega) h2
    have e : ((16 ^ (l.take k).length : Nat) : Int) ≤ ((16 ^ 6 : Nat) : Int) := by exact_mod_cast this
    simpa using e
  have h4 := h.2
  rw [Int.zero_add, Int.one_mul] at h4
  have : (16 : Int) ^ 6 = 16777216 := by decide
  omega
set_option maxHeartbeats 1000000 in
theorem parse_any (l : List UInt8) (w : World) (hd : Digs w) (hl : l.length ≤ maxLen) (r f : Int) (hp : parse l = (r, f)) : Calls Tryd.prog 54 #[.string ⟨l.toArray⟩] w (RetPair w r f) := by
  have HP := Lib.hid hp
  have HD := Lib.hid hd
  unfold maxLen at hl
  clear hp hd
  by_cases h1 : l.length < 4 ∨ 6 < l.length
  · have HE := Lib.hid (HP.out.symm.trans (parse_len h1))
    rcases h1 with h1 | h1
    all_goals
      go_enter Tryd.func54, Tryd.ntmps54
      go_wp2
      all_goals
        go_ret2
        obtain ⟨rfl, rfl⟩ := Prod.mk.inj HE.out
        exact ⟨rfl, Below.refl _ _⟩
  · have h4 : 4 ≤ l.length := by omega
    have h6 : l.length ≤ 6 := by omega
    have HL := Lib.hid h1
    clear h1
    go_enter Tryd.func54, Tryd.ntmps54
    go_wp2
    go_loop [4, 17] (fun c i => ∃ (k : Nat) (a : Int), k ≤ l.length ∧ i = .int .i64 k ∧ 0 ≤ a ∧ a ≤ 16777215 ∧ c = .int .i64 a ∧ Hid (num 0 (l.take k) = some a)) (fun _ i => l.length - (intOf i).toNat)
    case atStart => exact ⟨0, 0, by omega, rfl, by omega, by omega, rfl, rfl⟩
    case round =>
      obtain ⟨k, a, hk, rfl, ha, ha', rfl, HN⟩ := hrel
      by_cases h5 : k < l.length
      · obtain ⟨v, hv⟩ : ∃ v, val (l[k].toNat : Int) = v := ⟨_, rfl⟩
        have hvb := val_bd (l[k].toNat : Int)
        rw [hv] at hvb
        have HV := Lib.hid hv
        by_cases h7 : v < 0
        · have HE := Lib.hid (HP.out.symm.trans (parse_none (num_fail h5 (by rw [hv]; exact h7))))
          clear hv
          go_wp2_with (first | (go_at_call 69; refine (value_any _ _ HD.out _ HV.out).mono ?_; rintro e w' ⟨rfl, rfl⟩))
          go_ret2
          obtain ⟨rfl, rfl⟩ := Prod.mk.inj HE.out
          exact ⟨rfl, Below.refl _ _⟩
        · have HE := Lib.hid (num_step h5 (by rw [hv]; exact h7) HN.out)
          clear hv
          go_wp2_with (first | (go_at_call 69; refine (value_any _ _ HD.out _ HV.out).mono ?_; rintro e w' ⟨rfl, rfl⟩))
          have hb := num_le (by omega) HE.out
          rw [HV.out] at hb
          refine ⟨⟨k + 1, a * 16 + v, by omega, by go_num, hb.1, hb.2, rfl, by rw [← HV.out]; exact HE⟩, ?_⟩
          simp [intOf]
          omega
      · have HN2 : Hid (num 0 l = some a) := by
          have := HN.out
          rwa [List.take_of_length_le (by omega)] at this
        obtain ⟨t, ht⟩ : ∃ t, hexS a = t := ⟨_, rfl⟩
        have HT := Lib.hid ht
        clear ht
        go_wp2_with fail
        refine (hex_any _ _ HD.out _ HT.out).mono ?_
        rintro e w1 ⟨rfl, hb1⟩
        have HB1 := Lib.hid hb1
        clear hb1
        go_wp2
        · have hq : (!(t == l)) = true := by assumption
          have hne : t ≠ l := by simpa using hq
          have HE := HP.out.symm.trans (parse_ne HN2.out (by rw [HT.out]; exact hne))
          go_ret2
          obtain ⟨rfl, rfl⟩ := Prod.mk.inj HE
          exact ⟨rfl, HB1.out⟩
        · have hq : (!(t == l)) = false := by assumption
          have hne : t = l := by simpa using hq
          have HE := HP.out.symm.trans (parse_eq HL.out HN2.out (by rw [HT.out]; exact hne))
          go_ret2
          obtain ⟨rfl, rfl⟩ := Prod.mk.inj HE
          exact ⟨rfl, HB1.out⟩
set_option maxHeartbeats 1000000 in
theorem parse2_any (l : List UInt8) (w : World) (hl : l.length ≤ maxLen) (r f : Int) (hp : parse l = (r, f)) : Calls Tryd.prog 56 #[.string ⟨l.toArray⟩] w (RetPair w r f) := by
  have HP := Lib.hid hp
  unfold maxLen at hl
  clear hp
  by_cases h1 : l.length < 4 ∨ 6 < l.length
  · have HE := Lib.hid (HP.out.symm.trans (parse_len h1))
    rcases h1 with h1 | h1
    all_goals
      go_enter Tryd.func56, Tryd.ntmps56
      go_wp2
      all_goals
        go_ret2
        obtain ⟨rfl, rfl⟩ := Prod.mk.inj HE.out
        exact ⟨rfl, Below.refl _ _⟩
  · have h4 : 4 ≤ l.length := by omega
    have h6 : l.length ≤ 6 := by omega
    have HL := Lib.hid h1
    clear h1
    go_enter Tryd.func56, Tryd.ntmps56
    go_wp2
    go_loop [4, 5] (fun c i => ∃ (k : Nat) (a : Int), k ≤ l.length ∧ i = .int .i64 k ∧ 0 ≤ a ∧ a ≤ 16777215 ∧ c = .int .i64 a ∧ Hid (num 0 (l.take k) = some a)) (fun _ i => l.length - (intOf i).toNat)
    case atStart => exact ⟨0, 0, by omega, rfl, by omega, by omega, rfl, rfl⟩
    case round =>
      obtain ⟨k, a, hk, rfl, ha, ha', rfl, HN⟩ := hrel
      by_cases h5 : k < l.length
      · obtain ⟨v, hv⟩ : ∃ v, val (l[k].toNat : Int) = v := ⟨_, rfl⟩
        have hvb := val_bd (l[k].toNat : Int)
        rw [hv] at hvb
        have HV := Lib.hid hv
        by_cases h7 : v < 0
        · have HE := Lib.hid (HP.out.symm.trans (parse_none (num_fail h5 (by rw [hv]; exact h7))))
          clear hv
          go_wp2_with (first | (go_at_call 70; refine (digit_any _ _ _ HV.out).mono ?_; rintro e w' ⟨rfl, rfl⟩))
          go_ret2
          obtain ⟨rfl, rfl⟩ := Prod.mk.inj HE.out
          exact ⟨rfl, Below.refl _ _⟩
        · have HE := Lib.hid (num_step h5 (by rw [hv]; exact h7) HN.out)
          clear hv
          go_wp2_with (first | (go_at_call 70; refine (digit_any _ _ _ HV.out).mono ?_; rintro e w' ⟨rfl, rfl⟩))
          have hb := num_le (by omega) HE.out
          rw [HV.out] at hb
          refine ⟨⟨k + 1, a * 16 + v, by omega, by go_num, hb.1, hb.2, by go_num, by rw [← HV.out]; exact HE⟩, ?_⟩
          simp [intOf]
          omega
      · have HN2 : Hid (num 0 l = some a) := by
          have := HN.out
          rwa [List.take_of_length_le (by omega)] at this
        obtain ⟨t, ht⟩ : ∃ t, hexS a = t := ⟨_, rfl⟩
        have HT := Lib.hid ht
        clear ht
        go_wp2_with fail
        refine (hex2_any _ _ _ HT.out).mono ?_
        rintro e w1 ⟨rfl, rfl⟩
        go_wp2
        · have hq : (!(t == l)) = true := by assumption
          have hne : t ≠ l := by simpa using hq
          have HE := HP.out.symm.trans (parse_ne HN2.out (by rw [HT.out]; exact hne))
          go_ret2
          obtain ⟨rfl, rfl⟩ := Prod.mk.inj HE
          exact ⟨rfl, Below.refl _ _⟩
        · have hq : (!(t == l)) = false := by assumption
          have hne : t = l := by simpa using hq
          have HE := HP.out.symm.trans (parse_eq HL.out HN2.out (by rw [HT.out]; exact hne))
          go_ret2
          obtain ⟨rfl, rfl⟩ := Prod.mk.inj HE
          exact ⟨rfl, Below.refl _ _⟩
end Go.Proofs.YtogfhaeohcpkjaaDoor
