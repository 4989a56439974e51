/-
  ref02.Text: walk.
-/
import Derived.Test.YtogfhaeohcpkjaaDoorProg
import Derived.Test.YtogfhaeohcpkjaaDoorCr4
import Derived.Test.YtogfhaeohcpkjaaDoorCt1
import Derived.Test.YtogfhaeohcpkjaaDoorCp2
import Derived.WalkKit
import Derived.Deep.QuietTactic
import Derived.BigQuiet
import Derived.KernelRfl
import Derived.Outline
import Derived.IntWalk
namespace Go.Proofs.YtogfhaeohcpkjaaDoor
open Go.RowKit Go.UtYtogfhaeohcpkjaaDoor
theorem cat_bytes (a b : List UInt8) : ByteArray.mk a.toArray ++ ByteArray.mk b.toArray = ByteArray.mk (a ++ b).toArray := by
  apply ByteArray.ext
  simp
theorem text_take {r : List Rg} {k : Nat} {lo hi : Int} (h : r[k]? = some (lo, hi)) : textR (r.take (k + 1)) = (if k = 0 then [] else textR (r.take k) ++ [32]) ++ word (lo, hi) := by
  rw [take_rg h]
  obtain ⟨hk, _⟩ := List.getElem?_eq_some_iff.1 h
  by_cases h0 : k = 0
  · subst h0
    simp [textR_one]
  · have hne : r.take k ≠ [] := fun e => by have := congrArg List.length e; rw [List.length_take, List.length_nil] at this; omega
    rw [textR_snoc hne, if_neg h0]
    simp
set_option maxRecDepth 100000 in
set_option maxHeartbeats 2000000 in
theorem rText_any (A : Option Addr) (c : Nat) (l : List Rg) (w : World) (hR : Row w w.heap.size A (rgs l)) (hm : l.length ≤ 20000) (t : List UInt8) (ht : ∀ r, Cnn r → (∀ x, hasP r x ↔ hasP l x) → textR r = t) :
    Calls Tryd.prog 27 #[.agg #[.slice A l.length c]] w fun e w' => e = .returned (.string ⟨t.toArray⟩) ∧ Below w.heap.size w w' := by
  obtain ⟨w1, h1, HB1, HX1⟩ : ∃ w1, w1 = w.alloc (.cells #[.slice A l.length c] 24) ∧ Hid (Below w.heap.size w w1) ∧ Hid (Blk w1 w.heap.size 24 #[.slice A l.length c]) := ⟨_, rfl, (Below.refl _ _).alloc (Nat.le_refl _) _, Blk.new _ _ _⟩
  have HR := Lib.hid (hR.below HB1.out).lt
  have HV := Lib.hid ht
  clear hR ht
  go_enter Tryd.func27, Tryd.ntmps27
  go_wp2_with fail
  rw [← h1]
  clear h1
  refine (rMake_any A c l w1 HR.out (by omega)).mono ?_
  rintro e w2 ⟨A2, c2, r, rfl, hc, hh, hr, hb⟩
  have hrl := can_len hc
  have HF := Lib.hid (HV.out r hc hh)
  have HC := Lib.hid hc
  obtain ⟨hx2, hown⟩ := own2_mk (c2 := c2) HB1.out HX1.out hr hb
  have y0 := hx2.cell 0
  have z0 := hx2.free 0
  simp at y0
  obtain ⟨w3, h3⟩ : ∃ w3, w3 = w2.setCell ⟨w.heap.size, 0, none⟩ (.slice A2 r.length c2) := ⟨_, rfl⟩
  rw [← h3] at hown
  have HW := Lib.hid hown
  clear hc hh hr hb hx2 hown
  go_wp2_with fail
  rw [← h3]
  clear h3 y0 z0
  go_loopw [3, 4] (fun o i wr => ∃ (k : Nat) (s : List UInt8), k ≤ r.length ∧ i = .int .i64 (k : Int) ∧ o = .string ⟨s.toArray⟩ ∧ s.length ≤ 15 * k ∧ Hid (textR (r.take k) = s) ∧ Hid (Below w3.heap.size w3 wr)) (fun _ i _ => r.length - (intOf i).toNat)
  case atStart => exact ⟨0, [], by omega, rfl, rfl, by simp, rfl, Below.refl _ _⟩
  case round =>
    obtain ⟨k, s, hk, rfl, rfl, hsl, HT, HB⟩ := hrel
    have e1 := (HW.out.box.after HB.out).cell 0
    simp at e1
    by_cases h1 : k < r.length
    · obtain ⟨b, o, lo, hi, rfl, hb, hx, c1, c2'⟩ := at_rg (HW.out.row.below HB.out) h1
      have HS := Lib.hid (text_take hx.out)
      rw [HT.out] at HS
      have hin := cnn_inside HC.out _ (List.mem_of_getElem? hx.out)
      obtain ⟨i1, i2, i3⟩ := hin
      simp only at i1 i2 i3
      obtain ⟨s1, hs1⟩ : ∃ s1, hexS lo = s1 := ⟨_, rfl⟩
      obtain ⟨s2, hs2⟩ : ∃ s2, hexS hi = s2 := ⟨_, rfl⟩
      have hl1 : s1.length ≤ 6 := by rw [← hs1]; exact (hex_len ⟨i1, by omega⟩).2
      have hl2 : s2.length ≤ 6 := by rw [← hs2]; exact (hex_len ⟨by omega, i3⟩).2
      have HS1 := Lib.hid hs1
      have HS2 := Lib.hid hs2
      clear hs1 hs2
      by_cases h0 : k = 0
      all_goals
        by_cases hne : lo = hi
      · obtain rfl : s = [] := by rw [← HT.out, h0]; rfl
        have h0c : decide (0 < k) = false := by simp; omega
        have H0 := Lib.hid h0
        clear h0
        subst hne
        have HE : Hid (textR (r.take (k + 1)) = s1) := by show _ = _; rw [HS.out, if_pos H0.out, word_one rfl, HS1.out]; rfl
        clear HS
        go_wp2_with fail
        refine (hex2_any lo _ s1 HS1.out).mono ?_
        rintro e w' ⟨rfl, rfl⟩
        go_wp2_with fail
        go_quiet (fail)
        go_wp2
        go_roundw
        case rel => exact ⟨k + 1, _, by omega, by go_num, congrArg Value.string (by rw [HE.out]; apply ByteArray.ext; simp), by rw [HE.out]; (try simp); omega, rfl, below_drewN HB.out _⟩
        case measure => simp [intOf]; omega
      · obtain rfl : s = [] := by rw [← HT.out, h0]; rfl
        have h0c : decide (0 < k) = false := by simp; omega
        have H0 := Lib.hid h0
        clear h0
        have hn1 : (hi != lo) = true := by simpa using fun h => hne h.symm
        have hn2 : (hi == lo) = false := by simpa using fun h => hne h.symm
        have HE : Hid (textR (r.take (k + 1)) = (s1 ++ 46 :: 46 :: s2)) := by show _ = _; rw [HS.out, if_pos H0.out, word_two hne, HS1.out, HS2.out]; rfl
        clear HS hne
        go_wp2_with fail
        refine (hex2_any lo _ s1 HS1.out).mono ?_
        rintro e w' ⟨rfl, rfl⟩
        go_wp2_with fail
        go_quiet (fail)
        go_wp2_with fail
        refine (hex2_any hi _ s2 HS2.out).mono ?_
        rintro e w' ⟨rfl, rfl⟩
        go_wp2
        go_roundw
        case rel => exact ⟨k + 1, _, by omega, by go_num, congrArg Value.string (by rw [HE.out]; apply ByteArray.ext; simp), by rw [HE.out]; (try simp); omega, rfl, below_drewN HB.out _⟩
        case measure => simp [intOf]; omega
      · have h0' : 0 < k := by omega
        subst hne
        have HE : Hid (textR (r.take (k + 1)) = (s ++ [32]) ++ s1) := by show _ = _; rw [HS.out, if_neg h0, word_one rfl, HS1.out]
        clear HS
        go_wp2_with fail
        refine (hex2_any lo _ s1 HS1.out).mono ?_
        rintro e w' ⟨rfl, rfl⟩
        go_wp2_with fail
        go_quiet (fail)
        go_wp2
        go_roundw
        case rel => exact ⟨k + 1, _, by omega, by go_num, congrArg Value.string (by rw [HE.out]; apply ByteArray.ext; simp), by rw [HE.out]; (try simp); omega, rfl, below_drewN HB.out _⟩
        case measure => simp [intOf]; omega
      · have h0' : 0 < k := by omega
        have hn1 : (hi != lo) = true := by simpa using fun h => hne h.symm
        have hn2 : (hi == lo) = false := by simpa using fun h => hne h.symm
        have HE : Hid (textR (r.take (k + 1)) = (s ++ [32]) ++ (s1 ++ 46 :: 46 :: s2)) := by show _ = _; rw [HS.out, if_neg h0, word_two hne, HS1.out, HS2.out]
        clear HS hne
        go_wp2_with fail
        refine (hex2_any lo _ s1 HS1.out).mono ?_
        rintro e w' ⟨rfl, rfl⟩
        go_wp2_with fail
        go_quiet (fail)
        go_wp2_with fail
        refine (hex2_any hi _ s2 HS2.out).mono ?_
        rintro e w' ⟨rfl, rfl⟩
        go_wp2
        go_roundw
        case rel => exact ⟨k + 1, _, by omega, by go_num, congrArg Value.string (by rw [HE.out]; apply ByteArray.ext; simp), by rw [HE.out]; (try simp); omega, rfl, below_drewN HB.out _⟩
        case measure => simp [intOf]; omega
    · obtain rfl : k = r.length := by omega
      rw [List.take_length, HF.out] at HT
      obtain rfl : t = s := HT.out
      go_wp2
      go_ret
      exact ⟨rfl, HW.out.below.trans (HB.out.mono HW.out.below.size)⟩
end Go.Proofs.YtogfhaeohcpkjaaDoor
