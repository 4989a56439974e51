/-
  ref02.Cut: walk.
-/
import Derived.Test.YtogfhaeohcpkjaaDoorProg
import Derived.Test.YtogfhaeohcpkjaaDoorCr5
import Derived.Test.YtogfhaeohcpkjaaDoorCs12
import Derived.WalkKit
import Derived.KernelRfl
import Derived.Outline
import Derived.IntWalk
namespace Go.Proofs.YtogfhaeohcpkjaaDoor
open Go.RowKit Go.UtYtogfhaeohcpkjaaDoor
def strl (ws : List (List UInt8)) : List Value := ws.map fun l => .string (bya l)
theorem strl_len (ws : List (List UInt8)) : (strl ws).length = ws.length := by simp [strl]
theorem strl_snoc (ws : List (List UInt8)) (x : List UInt8) : strl (ws ++ [x]) = strl ws ++ [.string (bya x)] := by simp [strl]
/-- the pieces so far: those up to f are cut off, from f to k there is no c -/
def CutS (c : UInt8) (s : List UInt8) (out : List (List UInt8)) (f k : Nat) : Prop := chop c s = out ++ chop c (s.drop f) ∧ c ∉ (s.drop f).take (k - f)
theorem cutS_start (c : UInt8) (s : List UInt8) : CutS c s [] 0 0 := ⟨by simp, by simp⟩
theorem cutS_hit {c : UInt8} {s : List UInt8} {out : List (List UInt8)} {f k : Nat} (h : CutS c s out f k) (hf : f ≤ k) (hk : s[k]? = some c) : CutS c s (out ++ [(s.drop f).take (k - f)]) (k + 1) (k + 1) := by
  obtain ⟨h1, h2⟩ := h
  obtain ⟨hkl, e⟩ := List.getElem?_eq_some_iff.1 hk
  have es : s.drop f = (s.drop f).take (k - f) ++ c :: s.drop (k + 1) := by
    have h3 : (s.drop f).drop (k - f) = c :: s.drop (k + 1) := by
      rw [List.drop_drop, show f + (k - f) = k by omega, List.drop_eq_getElem_cons hkl, e]
    rw [← h3, List.take_append_drop]
  refine ⟨?_, by simp⟩
  rw [h1]
  have := chop_hit h2 (s.drop (k + 1))
  rw [← es] at this
  rw [this]
  simp
theorem cutS_miss {c : UInt8} {s : List UInt8} {out : List (List UInt8)} {f k : Nat} {b : UInt8} (h : CutS c s out f k) (hf : f ≤ k) (hk : s[k]? = some b) (hb : b ≠ c) : CutS c s out f (k + 1) := by
  obtain ⟨h1, h2⟩ := h
  refine ⟨h1, fun hm => ?_⟩
  have hd : (s.drop f)[k - f]? = some b := by rw [List.getElem?_drop, show f + (k - f) = k by omega]; exact hk
  obtain ⟨hl, e⟩ := List.getElem?_eq_some_iff.1 hd
  rw [show k + 1 - f = k - f + 1 by omega, List.take_succ_eq_append_getElem hl, e] at hm
  rcases List.mem_append.1 hm with hm | hm
  · exact h2 hm
  · simp at hm
    exact hb hm.symm
theorem cutS_end {c : UInt8} {s : List UInt8} {out : List (List UInt8)} {f : Nat} (h : CutS c s out f s.length) : chop c s = out ++ [s.drop f] := by
  obtain ⟨h1, h2⟩ := h
  rw [h1, chop_none]
  rwa [List.take_of_length_le (by simp)] at h2
theorem ext_cut (s : List UInt8) (f k : Nat) : (ByteArray.mk s.toArray).extract f k = bya ((s.drop f).take (k - f)) := by
  apply ByteArray.ext
  simp [bya]
theorem run_cut (s : List UInt8) (f k : Nat) (h : f ≤ k) (hk : k ≤ s.length) (w : World) : (Instr.slice 9 (.string ⟨s.toArray⟩) (some (.int .i64 (f : Int))) (some (.int .i64 (k : Int))) none).run Tryd.prog w = .ok (.string (bya ((s.drop f).take (k - f)))) w := by
  rw [run_slice_string (P := Tryd.prog) w 9 _ .i64 .i64 (f : Int) (k : Int) Tryd.underlying9 (by omega) (by omega) (by show _ ≤ ((s.toArray.size : Nat) : Int); simp; omega)]
  rw [Int.toNat_natCast, Int.toNat_natCast, ext_cut s f k]
theorem run_cut_to (s : List UInt8) (f : Nat) (h : f ≤ s.length) (w : World) : (Instr.slice 9 (.string ⟨s.toArray⟩) (some (.int .i64 (f : Int))) none none).run Tryd.prog w = .ok (.string (bya (s.drop f))) w := by
  have h2 : (ByteArray.mk s.toArray).size = s.length := by show s.toArray.size = _; simp
  rw [run_slice_string_l (P := Tryd.prog) w 9 _ Tryd.underlying9 .i64 (f : Int) (by omega) (by rw [h2]; omega)]
  rw [Int.toNat_natCast, h2, ext_cut s f s.length, List.take_of_length_le (by simp)]
def RetS (w : World) (ws : List (List UInt8)) (e : Ending) (w' : World) : Prop :=
  ∃ A c, e = .returned (.slice A ws.length c) ∧ Row w' w'.heap.size A (strl ws) ∧ Below w.heap.size w w'
set_option maxRecDepth 100000 in
set_option maxHeartbeats 2000000 in
theorem rCut_any (s : List UInt8) (c : UInt8) (cz : Int) (hcz : (c.toNat : Int) = cz) (w : World) (hl : s.length ≤ 100000) (ws : List (List UInt8)) (hws : chop c s = ws) :
    Calls Tryd.prog 55 #[.string ⟨s.toArray⟩, .int .u8 cz] w (RetS w ws) := by
  have HW := Lib.hid hws
  have HCZ := Lib.hid hcz
  clear hws hcz
  obtain ⟨i0, hi0, hz0, hz1, hz2⟩ := info_parts str_info
  go_enter Tryd.func55, Tryd.ntmps55
  go_wp2
  go_loopw [5, 6, 7] (fun p q i wr => ∃ (k f n0 c0 : Nat) (A0 : Option Addr) (out : List (List UInt8)), k ≤ s.length ∧ i = .int .i64 (k : Int) ∧ q = .int .i64 (f : Int) ∧ f ≤ k ∧ p = .slice A0 n0 c0 ∧ n0 ≤ k ∧ Hid (CutS c s out f k) ∧ Hid (wr.ownsRow w.heap.size 9 1 (.slice A0 n0 c0) n0 (strl out)) ∧ Hid (Below w.heap.size w wr)) (fun _ _ i _ => s.length - (intOf i).toNat)
  case atStart => exact ⟨0, 0, 0, 0, none, [], by omega, rfl, rfl, by omega, rfl, by omega, cutS_start c s, own_nil _, Below.refl _ _⟩
  case round =>
    obtain ⟨k, f, n0, c0, A0, out, hk, rfl, rfl, hf, rfl, hn0, HC, HO, HB⟩ := hrel
    by_cases h1 : k < s.length
    · obtain ⟨b, hb⟩ : ∃ b, Hid (s[k]? = some b) := ⟨s[k], List.getElem?_eq_getElem h1⟩
      have hbk : s[k] = b := (List.getElem?_eq_some_iff.1 hb.out).2
      have HBK := Lib.hid hbk
      have qC := run_cut s f k hf hk
      by_cases h2 : b = c
      · have HC' := Lib.hid (cutS_hit HC.out hf (h2 ▸ hb.out))
        have hz : (b.toNat : Int) = cz := by rw [h2]; exact HCZ.out
        have HZ := Lib.hid hz
        clear h2 hz hbk
        have hq : ((((ByteArray.mk s.toArray)[k]'(by show k < s.toArray.size; simpa using h1)).toNat : Int) == cz) = true := by
          rw [show ((ByteArray.mk s.toArray)[k]'(by show k < s.toArray.size; simpa using h1)) = b from HBK.out]
          simpa using HZ.out
        go_wp2_with (first
          | (at_builtin
             refine wpList_append_row _ rfl (.tmp 19) (.tmp 24) _ rfl w.heap.size 9 i0 _ 1 16 Tryd.underlying54 hi0 hz0 hz1 hz2 rfl (by omega) (.slice A0 n0 c0) n0 (strl out) rfl (ow_alloc HO.out _) _ _ 1 1 [Value.string (bya ((s.drop f).take (k - f)))] rfl rfl (row_lit wr _ _) (by simp [Value.oneCell']) (by simp only [maxLen]; omega) (by omega) (by have := HB.out.size; simp; omega) ?_
             intro q1 w1 o1 g1 t1
             obtain ⟨A1, c1, rfl⟩ := ow_slice (m := n0 + 1) o1 rfl
             rw [← strl_snoc] at o1
             have HB1 : Hid (Below w.heap.size w w1) := (HB.out.alloc HB.out.size _).grown g1 (by have := HB.out.size; simp; omega) (fun g hg => own_base HO.out g hg)
             have HO1 := Lib.hid o1
             clear o1 g1 t1))
        go_roundw
        case rel => exact ⟨k + 1, k + 1, n0 + 1, c1, A1, _, by omega, by go_num, by go_num, by omega, rfl, by omega, HC', HO1, HB1⟩
        case measure => simp [intOf]; omega
      · have HC' := Lib.hid (cutS_miss HC.out hf hb.out h2)
        have hz : (b.toNat : Int) ≠ cz := fun e => h2 (by
          rw [← HCZ.out] at e
          exact UInt8.toNat_inj.1 (by omega))
        clear hbk
        have hq : ((((ByteArray.mk s.toArray)[k]'(by show k < s.toArray.size; simpa using h1)).toNat : Int) == cz) = false := by
          rw [show ((ByteArray.mk s.toArray)[k]'(by show k < s.toArray.size; simpa using h1)) = b from HBK.out]
          simpa using hz
        clear hz h2
        go_wp2
        go_roundw
        case rel => exact ⟨k + 1, f, n0, c0, A0, _, by omega, by go_num, rfl, by omega, rfl, by omega, HC', HO, HB⟩
        case measure => simp [intOf]; omega
    · obtain rfl : k = s.length := by omega
      have HF := Lib.hid ((cutS_end HC.out).symm.trans HW.out)
      have qC := run_cut_to s f hf
      go_wp2_with (first
          | (at_builtin
             refine wpList_append_row _ rfl (.tmp 28) (.tmp 32) _ rfl w.heap.size 9 i0 _ 1 16 Tryd.underlying54 hi0 hz0 hz1 hz2 rfl (by omega) (.slice A0 n0 c0) n0 (strl out) rfl (ow_alloc HO.out _) _ _ 1 1 [Value.string (bya (s.drop f))] rfl rfl (row_lit wr _ _) (by simp [Value.oneCell']) (by simp only [maxLen]; omega) (by omega) (by have := HB.out.size; simp; omega) ?_
             intro q1 w1 o1 g1 t1
             obtain ⟨A1, c1, rfl⟩ := ow_slice (m := n0 + 1) o1 rfl
             rw [← strl_snoc] at o1
             have HB1 : Hid (Below w.heap.size w w1) := (HB.out.alloc HB.out.size _).grown g1 (by have := HB.out.size; simp; omega) (fun g hg => own_base HO.out g hg)
             have HO1 := Lib.hid o1
             clear o1 g1 t1))
      go_ret
      obtain rfl : out ++ [s.drop f] = ws := HF.out
      have hnl : n0 + 1 = (out ++ [s.drop f]).length := by have := HO1.out.1; rw [strl_len] at this; omega
      rw [hnl] at HO1 ⊢
      exact ⟨A1, c1, rfl, (ow_row HO1.out).1, HB1.out⟩
end Go.Proofs.YtogfhaeohcpkjaaDoor
