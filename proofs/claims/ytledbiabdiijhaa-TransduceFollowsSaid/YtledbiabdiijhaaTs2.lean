/-
  transrule.Check: the first error of rules.
-/
import Derived.Test.YtledbiabdiijhaaTs1
namespace Go.UtYtledbiabdiijhaa
open Go.RowKit
def smR (rules : List TR) : Prop := ∀ r ∈ rules, smS r.bef ∧ smS r.mat ∧ smS r.aft
theorem chkF_snoc {l : List TR} {k : Nat} {r : TR} (h : ∀ s ∈ l.take k, chk1 s = 0) (hk : l[k]? = some r) (hr : chk1 r = 0) : ∀ s ∈ l.take (k + 1), chk1 s = 0 := by
  intro s hs
  obtain ⟨hk', e⟩ := List.getElem?_eq_some_iff.1 hk
  rw [List.take_succ_eq_append_getElem hk', e] at hs
  rcases List.mem_append.1 hs with hs | hs
  · exact h s hs
  · rw [List.mem_singleton.1 hs]
    exact hr
theorem chkF_bad {l : List TR} {k : Nat} {r : TR} (h : ∀ s ∈ l.take k, chk1 s = 0) (hk : l[k]? = some r) (hr : chk1 r ≠ 0) : chkF l = chk1 r := by
  obtain ⟨hk', e⟩ := List.getElem?_eq_some_iff.1 hk
  have : l = l.take k ++ r :: l.drop (k + 1) := by
    rw [← e, List.getElem_cons_drop]
    exact (List.take_append_drop k l).symm
  rw [this]
  exact chkF_at h hr
end Go.UtYtledbiabdiijhaa
namespace Go.Proofs.Ytledbiabdiijhaa
open Go.RowKit Go.UtYtledbiabdiijhaa
set_option maxRecDepth 100000 in
set_option maxHeartbeats 1000000 in
theorem tcheck_any (A : Option Addr) (c : Nat) (rules : List TR) (w : World) (hR : RulesAt w w.heap.size A rules) (hs : smR rules) (hl : rules.length ≤ c) (_hc : c ≤ maxLen) :
    Calls Try.prog 35 #[.slice A rules.length c] w fun e w' => e = .returned (.int .i64 (chkL rules)) ∧ Below w.heap.size w w' := by
  have HR := Lib.hid hR
  have HS := Lib.hid hs
  unfold maxLen at _hc
  obtain ⟨n, hn⟩ : ∃ n, rules.length = n := ⟨_, rfl⟩
  rw [hn] at hl ⊢
  clear hR hs
  by_cases h2 : (n : Int) ≤ 200
  · have HC : Hid (chkL rules = chkF rules) := chkL_small (by omega)
    go_enter Try.func35, Try.ntmps35
    go_wp2
    go_loopw [11] (fun i wr => ∃ k : Nat, k ≤ n ∧ i = .int .i64 (k : Int) ∧ Hid (∀ s ∈ rules.take k, chk1 s = 0) ∧ Hid (Below w.heap.size w wr)) (fun i _ => n - (intOf i).toNat)
    case atStart => exact ⟨0, by omega, rfl, fun s hs => by simp at hs, Below.refl _ _⟩
    case round =>
      obtain ⟨k, hk, rfl, HK, HB⟩ := hrel
      have hbs := HB.out.size
      by_cases h1 : k < n
      · obtain ⟨b, o, v0, v1, v2, v3, r, rfl, hb, hx, HRA, c0, c1, c2, c3⟩ := (HR.out.below HB.out).at_ (k := k) (by omega)
        obtain ⟨Ab, cb, Am, cm, Aa, ca, Ar, cr, hvs, hmore⟩ := HRA.out
        have hvs' := hvs
        simp only [List.cons.injEq, and_true] at hvs
        obtain ⟨rfl, rfl, rfl, rfl⟩ := hvs
        obtain ⟨s1, s2, s3⟩ := HS.out r (List.mem_of_getElem? hx.out)
        obtain ⟨w1, hw1, HB1, HA1⟩ : ∃ w1, w1 = wr.alloc (.cells #[.slice Ab r.bef.length cb, .slice Am r.mat.length cm, .slice Aa r.aft.length ca, .slice Ar r.res.length cr] 34) ∧ Hid (Below w.heap.size w w1) ∧ Hid (RuleAt w1 w1.heap.size [.slice Ab r.bef.length cb, .slice Am r.mat.length cm, .slice Aa r.aft.length ca, .slice Ar r.res.length cr] r) := by
          have q : Below wr.heap.size wr (wr.alloc (.cells #[.slice Ab r.bef.length cb, .slice Am r.mat.length cm, .slice Aa r.aft.length ca, .slice Ar r.res.length cr] 34)) := (Below.refl _ _).alloc (Nat.le_refl _) _
          exact ⟨_, rfl, HB.out.alloc hbs _, ((HRA.out.more hbs).below q).lt⟩
        have HCK := Lib.hid (checked_any r _ w1 HA1.out s1 s2 s3)
        have HHX := Lib.hid hmore
        clear hmore hvs'
        by_cases h0 : chk1 r = 0
        · rw [h0] at HCK
          have HK' := Lib.hid (chkF_snoc HK.out hx.out h0)
          go_wp2_with (first | (go_at_call 42; rw [← hw1]; refine HCK.out.mono ?_; rintro e w2 ⟨rfl, hb2⟩; have HB2 := Lib.hid (HB1.out.trans (hb2.mono HB1.out.size))))
          go_roundw
          case rel => exact ⟨k + 1, by omega, by go_num, HK', HB2⟩
          case measure => simp [intOf]; omega
        · have HF : Hid (chkL rules = chk1 r) := HC.out.trans (chkF_bad HK.out hx.out h0)
          go_wp2_with (first | (go_at_call 42; rw [← hw1]; refine HCK.out.mono ?_; rintro e w2 ⟨rfl, hb2⟩; have HB2 := Lib.hid (HB1.out.trans (hb2.mono HB1.out.size))))
          go_ret
          exact ⟨by rw [HF.out]; rfl, HB2.out⟩
      · obtain rfl : k = n := by omega
        have HF : Hid (chkL rules = 0) := HC.out.trans (chkF_zero (fun s hs => HK.out s (by rw [List.take_of_length_le (by omega)]; exact hs)))
        go_wp2
        go_ret
        exact ⟨by rw [HF.out]; rfl, HB.out⟩
  · have HF : Hid (chkL rules = 2) := by
      show _ = _
      unfold chkL
      rw [if_pos (by omega)]
    go_enter Try.func35, Try.ntmps35
    go_wp2
    go_ret
    exact ⟨by rw [HF.out]; rfl, Below.refl _ _⟩
end Go.Proofs.Ytledbiabdiijhaa
