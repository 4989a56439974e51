/-
  codepoint.value, codepoint.Hex and ref01.digit, ref01.Hex: walks, for every byte and number; the table of digits is what it was laid as.
-/
import Derived.Test.YtogfhaeohcpkjaaDoorProg
import Derived.Test.YtogfhaeohcpkjaaDoorBase
import Derived.Test.YtogfhaeohcpkjaaDoorHexa
import Derived.Test.YtogfhaeohcpkjaaDoorCp1
import Derived.WalkKit
import Derived.Deep.QuietTactic
import Derived.BigQuiet
import Derived.Outline
import Derived.IntWalk
import Derived.Laws.IdiomStrings
namespace Go.Proofs.YtogfhaeohcpkjaaDoor
open Go.RowKit Go.UtYtogfhaeohcpkjaaDoor
attribute [local go_sem high] cut_l cut_lh cut_lhm cutA_zero
attribute [local go_sem 500] cut_any
/-- the table of digits lies in block 0 -/
def Digs (w : World) : Prop := 0 < w.heap.size ∧ ∀ d, d < 16 → w.cell? ⟨0, d, none⟩ = some (.int .u8 ((dg d).toNat : Int))
theorem Digs.below {w w' : World} (h : Digs w) (hb : Below w.heap.size w w') : Digs w' :=
  ⟨Nat.lt_of_lt_of_le h.1 hb.size, fun d hd => (hb.cell (p := ⟨0, d, none⟩) h.1).trans (h.2 d hd)⟩
theorem val_none (b : Int) (h : ∀ d, d < 16 → ((dg d).toNat : Int) ≠ b) : val b = -1 := by
  unfold val
  split
  · rename_i h1
    refine absurd ?_ (h (b - 48).toNat (by omega))
    rw [dg_nat _ (by omega), if_pos (by omega)]; omega
  · split
    · rename_i h1
      refine absurd ?_ (h (b - 55).toNat (by omega))
      rw [dg_nat _ (by omega), if_neg (by omega)]; omega
    · rfl
set_option maxHeartbeats 1000000 in
theorem value_any (b : Int) (w : World) (hd : Digs w) (v : Int) (hv : val b = v) : Calls Tryd.prog 69 #[.int .u8 b] w fun e w' => e = .returned (.int .i64 v) ∧ w = w' := by
  have HV := Lib.hid hv
  have HD := Lib.hid hd
  have h00 := hd.1
  clear hv hd
  go_enter Tryd.func69, Tryd.ntmps69
  go_wp2
  go_loop [4] (fun i => ∃ k : Nat, k ≤ 16 ∧ i = .int .i64 k ∧ Hid (∀ d, d < k → ((dg d).toNat : Int) ≠ b)) (fun i => 16 - (intOf i).toNat)
  case atStart => exact ⟨0, by omega, rfl, fun d hd => by omega⟩
  case round =>
    obtain ⟨k, hk, rfl, HN⟩ := hrel
    by_cases h1 : k < 16
    · have hc := HD.out.2 k h1
      by_cases h2 : ((dg k).toNat : Int) = b
      · have HE := Lib.hid ((congrArg val h2).symm.trans (val_dg k h1))
        have h3 : (((dg k).toNat : Int) == b) = true := by simp [h2]
        clear h2
        go_wp2
        go_ret
        exact ⟨ret_int (by rw [← HV.out, HE.out]), rfl⟩
      · have h3 : (((dg k).toNat : Int) == b) = false := by simp [h2]
        have HM : Hid (∀ d, d < k + 1 → ((dg d).toNat : Int) ≠ b) := fun d hd => by
          rcases Nat.lt_succ_iff_lt_or_eq.1 hd with h | rfl
          · exact HN.out d h
          · exact h2
        clear h2
        go_wp2
        go_round
        case rel => exact ⟨k + 1, by omega, by go_num, HM⟩
        case measure => simp [intOf]; omega
    · have HE := Lib.hid (val_none b (fun d hd => HN.out d (by omega)))
      go_wp2
      go_ret
      exact ⟨ret_int (by rw [← HV.out, HE.out]), rfl⟩
theorem lit_dg (k : Nat) (h : k < 16) : (#[48, 49, 50, 51, 52, 53, 54, 55, 56, 57, 65, 66, 67, 68, 69, 70] : Array UInt8)[k]? = some (dg k) := by
  have : ∀ k, k < 16 → (#[48, 49, 50, 51, 52, 53, 54, 55, 56, 57, 65, 66, 67, 68, 69, 70] : Array UInt8)[k]? = some (dg k) := by decide
  exact this k h
theorem lit_at (k : Nat) (h : k < 16) (h' : k < (ByteArray.mk #[48, 49, 50, 51, 52, 53, 54, 55, 56, 57, 65, 66, 67, 68, 69, 70]).size) : (ByteArray.mk #[48, 49, 50, 51, 52, 53, 54, 55, 56, 57, 65, 66, 67, 68, 69, 70])[k] = dg k := by
  have h1 := lit_dg k h
  obtain ⟨_, h2⟩ := Array.getElem?_eq_some_iff.1 h1
  exact h2
set_option maxHeartbeats 1000000 in
theorem digit_any (b : Int) (w : World) (v : Int) (hv : val b = v) : Calls Tryd.prog 70 #[.int .u8 b] w fun e w' => e = .returned (.int .i64 v) ∧ w = w' := by
  have HV := Lib.hid hv
  clear hv
  go_enter Tryd.func70, Tryd.ntmps70
  go_wp2
  go_loop [3] (fun i => ∃ k : Nat, k ≤ 16 ∧ i = .int .i64 k ∧ Hid (∀ d, d < k → ((dg d).toNat : Int) ≠ b)) (fun i => 16 - (intOf i).toNat)
  case atStart => exact ⟨0, by omega, rfl, fun d hd => by omega⟩
  case round =>
    obtain ⟨k, hk, rfl, HN⟩ := hrel
    by_cases h1 : k < 16
    · have HL := Lib.hid (lit_at k h1)
      go_wp2
      · rename_i hq _
        rw [HL.out] at hq
        have HE := (congrArg val (beq_iff_eq.1 hq)).symm.trans (val_dg k h1)
        go_ret
        exact ⟨ret_int (by rw [← HV.out, HE]), rfl⟩
      · rename_i hq
        rw [HL.out] at hq
        have h2 := beq_eq_false_iff_ne.1 hq
        have HM : Hid (∀ d, d < k + 1 → ((dg d).toNat : Int) ≠ b) := fun d hd => by
          rcases Nat.lt_succ_iff_lt_or_eq.1 hd with h | rfl
          · exact HN.out d h
          · exact h2
        go_round
        case rel => exact ⟨k + 1, by omega, by go_num, HM⟩
        case measure => simp [intOf]; omega
    · have HE := Lib.hid (val_none b (fun d hd => HN.out d (by omega)))
      go_wp2
      go_ret
      exact ⟨ret_int (by rw [← HV.out, HE.out]), rfl⟩
theorem hx_snoc (k c : Nat) : dg (c / 16 ^ k % 16) :: hx k c = hx (k + 1) c := rfl
/-- when the loops end -/
theorem nd_stop (k c : Nat) (hc : c ≤ 1114111) (h4 : 4 ≤ k) (h : c / 16 ^ k = 0) (hl : 4 < k → c / 16 ^ (k - 1) ≠ 0) (hk : k ≤ 6) : nd c = k := by
  unfold nd
  have : k = 4 ∨ k = 5 ∨ k = 6 := by omega
  rcases this with rfl | rfl | rfl
  · rw [if_pos]; have := Nat.div_eq_zero_iff.1 h; omega
  · have h2 := hl (by omega)
    rw [if_neg, if_pos]
    · have := Nat.div_eq_zero_iff.1 h; omega
    · intro h3; exact h2 (Nat.div_eq_of_lt (by omega))
  · have h2 := hl (by omega)
    rw [if_neg, if_neg]
    · intro h3; exact h2 (Nat.div_eq_of_lt (by omega))
    · intro h3; exact h2 (Nat.div_eq_of_lt (by omega))
theorem lit_cut (d : Nat) (h : d < 16) : (ByteArray.mk #[48, 49, 50, 51, 52, 53, 54, 55, 56, 57, 65, 66, 67, 68, 69, 70]).extract d (d + 1) = ⟨#[dg d]⟩ := by
  have : ∀ d, d < 16 → (ByteArray.mk #[48, 49, 50, 51, 52, 53, 54, 55, 56, 57, 65, 66, 67, 68, 69, 70]).extract d (d + 1) = ⟨#[dg d]⟩ := by decide
  exact this d h
theorem run_lit (m : Nat) (w : World) : (Instr.slice 9 (.string (ByteArray.mk #[48, 49, 50, 51, 52, 53, 54, 55, 56, 57, 65, 66, 67, 68, 69, 70])) (some (.int .i64 ((m : Int) % 16))) (some (.int .i64 ((m : Int) % 16 + 1))) none).run Tryd.prog w = .ok (.string ⟨#[dg (m % 16)]⟩) w := by
  rw [run_slice_string (P := Tryd.prog) w 9 _ .i64 .i64 ((m : Int) % 16) ((m : Int) % 16 + 1) Tryd.underlying9 (by omega) (by omega) (by show _ ≤ (16 : Int); omega)]
  rw [show ((m : Int) % 16).toNat = m % 16 by omega, show ((m : Int) % 16 + 1).toNat = m % 16 + 1 by omega, lit_cut _ (by omega)]
theorem hx_next {l : List UInt8} {n m : Nat} (h : l = hx l.length n ∧ m = n / 16 ^ l.length ∧ (4 < l.length → n / 16 ^ (l.length - 1) ≠ 0)) (h4 : l.length < 4 ∨ 0 < m) :
    (dg (m % 16) :: l) = hx (dg (m % 16) :: l).length n ∧ m / 16 = n / 16 ^ (dg (m % 16) :: l).length ∧ (4 < (dg (m % 16) :: l).length → n / 16 ^ ((dg (m % 16) :: l).length - 1) ≠ 0) := by
  obtain ⟨h1, h2, h3⟩ := h
  refine ⟨?_, ?_, ?_⟩
  · rw [List.length_cons, hx, ← h1, ← h2]
  · rw [List.length_cons, Nat.pow_succ, ← Nat.div_div_eq_div_mul, ← h2]
  · intro h5
    rw [List.length_cons] at h5 ⊢
    rw [Nat.add_sub_cancel, ← h2]
    omega
theorem str_cons (b : UInt8) (l : List UInt8) : Value.string (ByteArray.mk #[b] ++ ByteArray.mk l.toArray) = .string ⟨(b :: l).toArray⟩ := by
  congr 1
set_option maxRecDepth 100000 in
set_option maxHeartbeats 1000000 in
theorem hex2_any (c : Int) (w : World) (s : List UInt8) (hs : hexS c = s) : Calls Tryd.prog 59 #[.int .i64 c] w fun e w' => e = .returned (.string ⟨s.toArray⟩) ∧ w = w' := by
  have HS := Lib.hid hs
  clear hs
  by_cases hv : 0 ≤ c ∧ c ≤ 1114111
  · have H1 := Lib.hid (show vldB c = true by simp [vldB, hv])
    obtain ⟨n, rfl⟩ := Int.eq_ofNat_of_zero_le hv.1
    have hn : n ≤ 1114111 := by omega
    have HX : Hid (hexS (n : Int) = hx (nd n) n) := by show _ = _; unfold hexS; rw [if_pos hv]; rfl
    clear hv
    go_enter Tryd.func59, Tryd.ntmps59
    go_wp2_with (first | (go_at_call 60; refine (valid2_any _ _ _ H1.out).mono ?_; rintro e w' ⟨rfl, rfl⟩))
    go_loop [0, 3] (fun c s => ∃ (m : Nat) (l : List UInt8), l.length ≤ 6 ∧ m ≤ 1114111 ∧ c = .int .i64 (m : Int) ∧ s = .string ⟨l.toArray⟩ ∧ Hid (l = hx l.length n ∧ m = n / 16 ^ l.length ∧ (4 < l.length → n / 16 ^ (l.length - 1) ≠ 0))) (fun _ s => match s with | .string s => 6 - s.size | _ => 0)
    case atStart => exact ⟨n, [], by simp, hn, rfl, rfl, ⟨rfl, by simp, fun h => by simp at h⟩⟩
    case round =>
      obtain ⟨m, l, hl, hm, rfl, rfl, HN⟩ := hrel
      by_cases h4 : l.length < 4 ∨ 0 < m
      · have h6 : l.length < 6 := by
          rcases Nat.lt_or_ge l.length 6 with h | h
          · exact h
          · have h7 : l.length = 6 := by omega
            have h8 := HN.out.2.1
            rw [h7, Nat.div_eq_of_lt (by omega)] at h8
            omega
        have HN2 := Lib.hid (hx_next HN.out h4)
        have hrun := run_lit m w
        rcases h4 with h4 | h4
        all_goals
          go_wp2
          all_goals
            refine ⟨⟨m / 16, dg (m % 16) :: l, by simp; omega, by omega, by go_num, str_cons _ _, HN2⟩, ?_⟩
            show 6 - (ByteArray.mk #[dg (m % 16)] ++ ByteArray.mk l.toArray).size < 6 - (ByteArray.mk l.toArray).size
            rw [ByteArray.size_append]
            show 6 - (1 + l.toArray.size) < 6 - l.toArray.size
            simp only [List.size_toArray]
            omega
      · have h5 : ¬ l.length < 4 := by omega
        have h6 : ¬ 0 < m := by omega
        have HE : Hid (hx (nd n) n = l) := by
          show _ = _
          have hk : nd n = l.length := nd_stop l.length n hn (by omega) (by rw [← HN.out.2.1]; omega) HN.out.2.2 hl
          rw [hk]; exact HN.out.1.symm
        go_wp2
        go_ret
        refine ⟨?_, rfl⟩
        rw [← HS.out, HX.out, HE.out]
        rfl
  · have H1 := Lib.hid (show vldB c = false by simp only [vldB, decide_eq_false_iff_not]; exact hv)
    have H2 := Lib.hid (hexS_no hv)
    clear hv
    go_enter Tryd.func59, Tryd.ntmps59
    go_wp2_with (first | (go_at_call 60; refine (valid2_any _ _ _ H1.out).mono ?_; rintro e w' ⟨rfl, rfl⟩))
    go_ret
    refine ⟨?_, rfl⟩
    rw [← HS.out, H2.out]
    rfl
theorem rep_set (j : Nat) (z v : Value) (l : List Value) : (List.replicate (j + 1) z ++ l).set j v = List.replicate j z ++ v :: l := by
  induction j with
  | zero => rfl
  | succ j ih => rw [List.replicate_succ, List.cons_append, List.set_cons_succ, ih, List.replicate_succ, List.cons_append]
theorem run_cut6 (g j : Nat) (h : j < 6) (w : World) : (Instr.sliceAt 74 (.pointer (some ⟨g, 0, none⟩)) (some (.int .i64 (j : Int))) none none).run Tryd.prog w = .ok (.slice (some ⟨g, j, none⟩) (6 - j) (6 - j)) w := by
  have h0 : ∀ (g : Nat) (w : World), (Instr.sliceAt 74 (.pointer (some ⟨g, 0, none⟩)) (some (.int .i64 ((0 : Nat) : Int))) none none).run Tryd.prog w = .ok (.slice (some ⟨g, 0, none⟩) (6 - 0) (6 - 0)) w := fun g w => by kernel_rfl
  have h1 : ∀ (g : Nat) (w : World), (Instr.sliceAt 74 (.pointer (some ⟨g, 0, none⟩)) (some (.int .i64 ((1 : Nat) : Int))) none none).run Tryd.prog w = .ok (.slice (some ⟨g, 1, none⟩) (6 - 1) (6 - 1)) w := fun g w => by kernel_rfl
  have h2 : ∀ (g : Nat) (w : World), (Instr.sliceAt 74 (.pointer (some ⟨g, 0, none⟩)) (some (.int .i64 ((2 : Nat) : Int))) none none).run Tryd.prog w = .ok (.slice (some ⟨g, 2, none⟩) (6 - 2) (6 - 2)) w := fun g w => by kernel_rfl
  have h3 : ∀ (g : Nat) (w : World), (Instr.sliceAt 74 (.pointer (some ⟨g, 0, none⟩)) (some (.int .i64 ((3 : Nat) : Int))) none none).run Tryd.prog w = .ok (.slice (some ⟨g, 3, none⟩) (6 - 3) (6 - 3)) w := fun g w => by kernel_rfl
  have h4 : ∀ (g : Nat) (w : World), (Instr.sliceAt 74 (.pointer (some ⟨g, 0, none⟩)) (some (.int .i64 ((4 : Nat) : Int))) none none).run Tryd.prog w = .ok (.slice (some ⟨g, 4, none⟩) (6 - 4) (6 - 4)) w := fun g w => by kernel_rfl
  have h5 : ∀ (g : Nat) (w : World), (Instr.sliceAt 74 (.pointer (some ⟨g, 0, none⟩)) (some (.int .i64 ((5 : Nat) : Int))) none none).run Tryd.prog w = .ok (.slice (some ⟨g, 5, none⟩) (6 - 5) (6 - 5)) w := fun g w => by kernel_rfl
  have : j = 0 ∨ j = 1 ∨ j = 2 ∨ j = 3 ∨ j = 4 ∨ j = 5 := by omega
  rcases this with rfl | rfl | rfl | rfl | rfl | rfl
  · exact h0 g w
  · exact h1 g w
  · exact h2 g w
  · exact h3 g w
  · exact h4 g w
  · exact h5 g w
def bts (l : List UInt8) : List Value := l.map fun b => .int .u8 (b.toNat : Int)
set_option maxRecDepth 100000 in
set_option maxHeartbeats 1000000 in
theorem hex_any (c : Int) (w : World) (hd : Digs w) (s : List UInt8) (hs : hexS c = s) : Calls Tryd.prog 57 #[.int .i64 c] w fun e w' => e = .returned (.string ⟨s.toArray⟩) ∧ Below w.heap.size w w' := by
  have HS := Lib.hid hs
  have HD := Lib.hid hd
  clear hs hd
  by_cases hv : 0 ≤ c ∧ c ≤ 1114111
  · have H1 := Lib.hid (show vldB c = true by simp [vldB, hv])
    obtain ⟨n, rfl⟩ := Int.eq_ofNat_of_zero_le hv.1
    have hn : n ≤ 1114111 := by omega
    have HX : Hid (hexS (n : Int) = hx (nd n) n) := by show _ = _; unfold hexS; rw [if_pos hv]; rfl
    clear hv
    go_enter Tryd.func57, Tryd.ntmps57
    go_wp2_with (first | (go_at_call 41; refine (valid_any _ _ _ H1.out).mono ?_; rintro e w' ⟨rfl, rfl⟩))
    go_loopw [0, 4, 9] (fun c at_ i wr => ∃ (m j : Nat) (l : List UInt8), j ≤ 6 ∧ l.length ≤ 6 ∧ m ≤ 1114111 ∧ c = .int .i64 (m : Int) ∧ at_ = .int .i64 (j : Int) ∧ i = .int .i64 (l.length : Int) ∧ Hid (j + l.length = 6) ∧
      Hid (l = hx l.length n ∧ m = n / 16 ^ l.length ∧ (4 < l.length → n / 16 ^ (l.length - 1) ≠ 0)) ∧ Hid (Blk wr w.heap.size 74 (List.replicate j (Value.int .u8 0) ++ bts l).toArray) ∧ Hid (Below w.heap.size w wr)) (fun _ _ i _ => 6 - (intOf i).toNat)
    case atStart => exact ⟨n, 6, [], by simp, by simp, hn, rfl, rfl, rfl, rfl, ⟨rfl, by simp, fun h => by simp at h⟩, Blk.new _ _ _, (Below.refl _ _).alloc (Nat.le_refl _) _⟩
    case round =>
      obtain ⟨m, j, l, hj, hl, hm, rfl, rfl, rfl, HJ, HN, HK, HB⟩ := hrel
      by_cases h4 : l.length < 4 ∨ 0 < m
      · have h6 : l.length < 6 := by
          rcases Nat.lt_or_ge l.length 6 with h | h
          · exact h
          · have h7 : l.length = 6 := by omega
            have h8 := HN.out.2.1
            rw [h7, Nat.div_eq_of_lt (by omega)] at h8
            omega
        obtain ⟨k, rfl⟩ : ∃ k, j = k + 1 := ⟨j - 1, by have := HJ.out; omega⟩
        have HN2 := Lib.hid (hx_next HN.out h4)
        have hcd := (HD.out.below HB.out).2 (m % 16) (by omega)
        have hck : wr.cell? ⟨w.heap.size, k, none⟩ = some (.int .u8 0) := by
          rw [HK.out.cell, List.getElem?_toArray, List.getElem?_append_left (by simp)]
          simp
        have hfk := HK.out.free k
        have HK2 := Lib.hid (HK.out.set_ k (.int .u8 ((dg (m % 16)).toNat : Int)))
        have HB2 := Lib.hid (HB.out.setCell (p := ⟨w.heap.size, k, none⟩) (Nat.le_refl _) (.int .u8 ((dg (m % 16)).toNat : Int)))
        have hw1 := HK.out.lt
        have hw0 := HD.out.1
        clear HK
        have HK3 : Hid (Blk (wr.setCell ⟨w.heap.size, k, none⟩ (.int .u8 ((dg (m % 16)).toNat : Int))) w.heap.size 74 (List.replicate k (Value.int .u8 0) ++ bts (dg (m % 16) :: l)).toArray) := by
          have h := HK2.out
          rw [List.setIfInBounds_toArray, rep_set] at h
          exact h
        clear HK2
        rcases h4 with h4 | h4
        all_goals
          go_wp2
          all_goals
            refine ⟨⟨m / 16, k, dg (m % 16) :: l, by omega, by simp; omega, by omega, by go_num, rfl, by simp, ?_, HN2, HK3, HB2⟩, ?_⟩
            · have := HJ.out
              show _ = _
              simp
              omega
            · simp [intOf]
              omega
      · have h5 : ¬ l.length < 4 := by omega
        obtain rfl : m = 0 := by omega
        have HE : Hid (hx (nd n) n = l) := by
          show _ = _
          have hk : nd n = l.length := nd_stop l.length n hn (by omega) (by rw [← HN.out.2.1]) HN.out.2.2 hl
          rw [hk]; exact HN.out.1.symm
        have hwl := HK.out.lt
        have hcv := run_convert_bytes_back (P := Tryd.prog) wr 76 9 5 ⟨w.heap.size, j, none⟩ l.length l Tryd.underlying76 Tryd.underlying5 Tryd.underlying9 (fun i hi => by
          have e : (⟨w.heap.size, j, none⟩ : Addr).add i = ⟨w.heap.size, j + i, none⟩ := by unfold Addr.add; split <;> simp_all
          rw [e, HK.out.cell]
          rw [List.getElem?_toArray, List.getElem?_append_right (by simp)]
          simp [bts, hi])
        have hsl : (Instr.sliceAt 74 (.pointer (some ⟨w.heap.size, 0, none⟩)) (some (.int .i64 (j : Int))) none none).run Tryd.prog wr = .ok (.slice (some ⟨w.heap.size, j, none⟩) l.length l.length) wr := by
          have h := run_cut6 w.heap.size j (by have := HJ.out; omega) wr
          rw [show 6 - j = l.length by have := HJ.out; omega] at h
          exact h
        go_wp2
        all_goals
          go_ret
          refine ⟨?_, HB.out⟩
          rw [← HS.out, HX.out, HE.out]
          rfl
  · have H1 := Lib.hid (show vldB c = false by simp only [vldB, decide_eq_false_iff_not]; exact hv)
    have H2 := Lib.hid (hexS_no hv)
    clear hv
    go_enter Tryd.func57, Tryd.ntmps57
    go_wp2_with (first | (go_at_call 41; refine (valid_any _ _ _ H1.out).mono ?_; rintro e w' ⟨rfl, rfl⟩))
    go_ret
    refine ⟨?_, Below.refl _ _⟩
    rw [← HS.out, H2.out]
    rfl
end Go.Proofs.YtogfhaeohcpkjaaDoor
