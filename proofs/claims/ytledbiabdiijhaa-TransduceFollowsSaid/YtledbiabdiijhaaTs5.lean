/-
  ref50.Check, ref50.Small.
-/
import Derived.Test.YtledbiabdiijhaaTs4
namespace Go.Proofs.Ytledbiabdiijhaa
open Go.RowKit Go.UtYtledbiabdiijhaa
set_option maxRecDepth 100000 in
set_option maxHeartbeats 1000000 in
theorem rcheck_any (A : Option Addr) (c : Nat) (rules : List TR) (w : World) (hR : RulesAt w w.heap.size A rules) (hs : smR rules) (hl : rules.length ≤ c) (_hc : c ≤ maxLen) :
    Calls Try.prog 34 #[.slice A rules.length c] w fun e w' => e = .returned (.int .i64 (chkL rules)) ∧ Below w.heap.size w w' := by
  have HR := Lib.hid hR
  have HS := Lib.hid hs
  unfold maxLen at _hc
  obtain ⟨n, hn⟩ : ∃ n, rules.length = n := ⟨_, rfl⟩
  rw [hn] at hl ⊢
  clear hR hs
  by_cases h2 : (n : Int) ≤ 200
  · have HC : Hid (chkL rules = chkF rules) := chkL_small (by omega)
    go_enter Try.func34, Try.ntmps34
    go_wp2
    go_loopw [3] (fun i wr => ∃ k : Nat, k ≤ n ∧ i = .int .i64 (k : Int) ∧ Hid (∀ s ∈ rules.take k, chk1 s = 0) ∧ Hid (Below w.heap.size w wr)) (fun i _ => n - (intOf i).toNat)
    case atStart => exact ⟨0, by omega, rfl, fun s hs => by simp at hs, Below.refl _ _⟩
    case round =>
      obtain ⟨k, hk, rfl, HK, HB⟩ := hrel
      have hbs := HB.out.size
      by_cases h1 : k < n
      · obtain ⟨b, o, v0, v1, v2, v3, r, rfl, hb, hx, HRA, c0, c1, c2, c3⟩ := (HR.out.below HB.out).at_ (k := k) (by omega)
        obtain ⟨Ab, cb, Am, cm, Aa, ca, Ar, cr, hvs, hmore⟩ := HRA.out
        simp only [List.cons.injEq, and_true] at hvs
        obtain ⟨rfl, rfl, rfl, rfl⟩ := hvs
        obtain ⟨s1, s2, s3⟩ := HS.out r (List.mem_of_getElem? hx.out)
        have HCK := Lib.hid (one_any r _ wr (HRA.out.more hbs) s1 s2 s3)
        clear hmore
        by_cases h0 : chk1 r = 0
        · rw [h0] at HCK
          have HK' := Lib.hid (chkF_snoc HK.out hx.out h0)
          go_wp2_with (first | (go_at_call 41; refine HCK.out.mono ?_; rintro e w2 ⟨rfl, hb2⟩; have HB2 := Lib.hid (HB.out.trans (hb2.mono hbs))))
          go_roundw
          case rel => exact ⟨k + 1, by omega, by go_num, HK', HB2⟩
          case measure => simp [intOf]; omega
        · have HF : Hid (chkL rules = chk1 r) := HC.out.trans (chkF_bad HK.out hx.out h0)
          go_wp2_with (first | (go_at_call 41; refine HCK.out.mono ?_; rintro e w2 ⟨rfl, hb2⟩; have HB2 := Lib.hid (HB.out.trans (hb2.mono hbs))))
          go_ret
          exact ⟨by rw [HF.out]; rfl, HB2.out⟩
      · obtain rfl : k = n := by omega
        have HF : Hid (chkL rules = 0) := HC.out.trans (chkF_zero (fun s hs => HK.out s (by rw [List.take_of_length_le (by omega)]; exact hs)))
        go_wp2
        go_ret
        exact ⟨by rw [HF.out]; rfl, HB.out⟩
  · have HF : Hid (chkL rules = 2) := by
      show _ = _
      unfold chkL
      rw [if_pos (by omega)]
    go_enter Try.func34, Try.ntmps34
    go_wp2
    go_ret
    exact ⟨by rw [HF.out]; rfl, Below.refl _ _⟩
end Go.Proofs.Ytledbiabdiijhaa
