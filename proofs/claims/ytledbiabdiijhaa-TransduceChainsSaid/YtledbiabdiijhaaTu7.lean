/-
  transduce.Chain.
-/
import Derived.Test.YtledbiabdiijhaaTt8
import Derived.Test.YtledbiabdiijhaaTlo
namespace Go.UtYtledbiabdiijhaa
/-- lists of rules, one after the other -/
noncomputable def chR (l : List (List TR)) (text : List Int) : List Int := l.foldl (fun t rules => outR (dataL rules) t 0) text
theorem chR_take {l : List (List TR)} {text : List Int} {k : Nat} {r : List TR} (h : l[k]? = some r) : chR (l.take (k + 1)) text = outR (dataL r) (chR (l.take k) text) 0 := by
  obtain ⟨hk, e⟩ := List.getElem?_eq_some_iff.1 h
  rw [List.take_succ_eq_append_getElem hk, e]
  simp [chR]
end Go.UtYtledbiabdiijhaa
namespace Go.Proofs.Ytledbiabdiijhaa
open Go.RowKit Go.UtYtledbiabdiijhaa
set_option maxRecDepth 100000 in
set_option maxHeartbeats 2000000 in
theorem pChain_any (A At : Option Addr) (c ct : Nat) (l : List (List TR)) (text : List Int) (w : World) (hR : RulesAt2 w w.heap.size A l) (hs : ∀ r ∈ l, smR r ∧ r.length ≤ 1000000) (hl : l.length ≤ 1000000)
    (hT : Row w w.heap.size At (ints text)) (hb : ∀ k, k ≤ l.length → (chR (l.take k) text).length ≤ 10000) (R : List Int) (hRes : chR l text = R) :
    Calls Try.prog 20 #[.slice A l.length c, .slice At text.length ct] w (RetI w R) := by
  have HR := Lib.hid hR
  have HS := Lib.hid hs
  have HT := Lib.hid hT
  have HBD := Lib.hid hb
  have HRS := Lib.hid hRes
  have ht0 : text.length ≤ 10000 := by
    have := hb 0 (by omega)
    simpa [chR] using this
  obtain ⟨n, hn⟩ : ∃ n, l.length = n := ⟨_, rfl⟩
  obtain ⟨nt, hnt⟩ : ∃ n, text.length = n := ⟨_, rfl⟩
  rw [hn] at hl HBD
  rw [hnt] at ht0
  rw [hn, hnt]
  have HN := Lib.hid hn
  have HNT := Lib.hid hnt
  clear hR hs hT hb hRes hn hnt
  obtain ⟨i0, hi0, hz0, hz1, hz2⟩ := info_parts in_info
  go_enter Try.func20, Try.ntmps20
  go_wp2_with (first
    | (at_builtin
       refine wpList_append_row _ rfl (.const (.slice none 0 0)) (.tmp 7) _ rfl w.heap.size 3 i0 _ 1 8 Try.underlying23 hi0 hz0 hz1 hz2 rfl (by omega) (.slice none 0 0) 0 [] rfl (own_nil w) _ _ nt ct (ints text) rfl (by rw [ints_len, HNT.out, Nat.mul_one]) HT.out (ints_one _) (by simp only [maxLen]; omega) (by omega) (Nat.le_refl _) ?_
       intro q4 w4 o4 g4 t4
       obtain ⟨A4, c4, rfl⟩ := ow_slice (m := 0 + nt) o4 rfl
       rw [Nat.zero_add] at o4 t4 ⊢
       have HB4 : Hid (Below w.heap.size w w4) := (Below.refl _ _).grown g4 (Nat.le_refl _) (fun g hg => by simp [Value.ownBlock] at hg)
       have HO4 : Hid (Row w4 w4.heap.size A4 (ints text)) := by
         have := (ow_row o4).1
         show Row _ _ _ _
         simpa using this
       have HC4 := Lib.hid (ow_row o4).2
       clear o4 g4 t4))
  go_loopw [1, 11] (fun tx i wr => ∃ (k n1 c1 : Nat) (A1 : Option Addr) (t1 : List Int), k ≤ n ∧ i = .int .i64 (k : Int) ∧ tx = .slice A1 n1 c1 ∧ Hid (t1.length = n1) ∧ Hid (n1 ≤ c1 ∧ c1 ≤ maxLen) ∧ Hid (chR (l.take k) text = t1) ∧ Hid (Row wr wr.heap.size A1 (ints t1)) ∧ Hid (Below w.heap.size w wr)) (fun _ i _ => n - (intOf i).toNat)
  case atStart => exact ⟨0, nt, c4, A4, text, by omega, rfl, rfl, HNT, HC4, by show _ = _; simp [chR], HO4, HB4⟩
  case round =>
    obtain ⟨k, n1, c1, A1, t1, hk, rfl, rfl, HL1, HC1, HCH, HR1, HB⟩ := hrel
    have hbs := HB.out.size
    by_cases hkn : k < n
    · obtain ⟨b, o, A', c', r, rfl, hb, hx, cc, l1, l2, HRA⟩ := (HR.out.below HB.out).at_ (k := k) (by rw [HN.out]; exact hkn)
      obtain ⟨s1, s2⟩ := HS.out r (List.mem_of_getElem? hx.out)
      obtain ⟨R1, hR1⟩ : ∃ R1, outR (dataL r) t1 0 = R1 := ⟨_, rfl⟩
      have HAP := pApply_any A' A1 c' c1 r t1 wr (HRA.out.more hbs) s1 l1 l2 s2 HR1.out (by have := HBD.out k hk; rw [HCH.out] at this; exact this) R1 hR1
      have HNX : Hid (chR (l.take (k + 1)) text = R1) := by
        show _ = _
        rw [chR_take hx.out, HCH.out, hR1]
      obtain ⟨rn, hrn⟩ : ∃ n, r.length = n := ⟨_, rfl⟩
      rw [HL1.out, hrn] at HAP
      rw [hrn] at cc
      replace HAP := Lib.hid HAP
      clear hR1 hrn l1 l2 s1 s2
      go_wp2_with (first | (go_at_call 16; refine HAP.out.mono ?_; rintro e w2 ⟨A2, c2, rfl, g1, g2, hr2, hb2⟩; have HR2 := Lib.hid hr2; have HC2 := Lib.hid (And.intro g1 g2); have HB2 := Lib.hid (HB.out.trans (hb2.mono hbs)); clear hr2 hb2 g1 g2))
      go_roundw
      case rel => exact ⟨k + 1, R1.length, c2, A2, R1, by omega, by go_num, rfl, rfl, HC2, HNX, HR2, HB2⟩
      case measure => simp [intOf]; omega
    · obtain rfl : n = k := by omega
      have HF : Hid (t1 = R) := by
        show _ = _
        rw [← HRS.out, ← HCH.out, List.take_of_length_le (by rw [HN.out]; exact Nat.le_refl _)]
      go_wp2
      go_ret
      rw [← HF.out]
      exact ⟨A1, c1, by rw [HL1.out]; rfl, by rw [HL1.out]; exact HC1.out.1, HC1.out.2, HR1.out, HB.out⟩
end Go.Proofs.Ytledbiabdiijhaa
