/-
  ref29.small, ref29.Small; law31.few.
-/
import Derived.Test.YtkpblieanejmeaaBm0
namespace Go.Proofs.Ytkpblieanejmeaa
open Go.RowKit Go.UtYtkpblieanejmeaa
def smA (nx mk : List (List Int)) : Prop := (nx.length ≤ 20 ∧ mk.length ≤ 20) ∧ (∀ r ∈ nx, r.length ≤ 12) ∧ ∀ r ∈ mk, r.length ≤ 20
def smT (t : BT) : Prop := (t.cls.length ≤ 8 ∧ t.act.length ≤ 12) ∧ smA t.ln t.lm ∧ smA t.rn t.rm
theorem all_snoc {α : Type} {l : List α} {P : α → Prop} {k : Nat} {s : α} (h : ∀ s ∈ l.take k, P s) (hk : l[k]? = some s) (hp : P s) : ∀ s ∈ l.take (k + 1), P s := by
  intro t ht
  obtain ⟨hk', e⟩ := List.getElem?_eq_some_iff.1 hk
  rw [List.take_succ_eq_append_getElem hk', e] at ht
  rcases List.mem_append.1 ht with ht | ht
  · exact h t ht
  · rw [List.mem_singleton.1 ht]
    exact hp
theorem all_take {α : Type} {l : List α} {P : α → Prop} {k : Nat} (h : ∀ s ∈ l.take k, P s) (hk : l.length ≤ k) : ∀ s ∈ l, P s := by
  rwa [List.take_of_length_le hk] at h
set_option maxRecDepth 100000 in
set_option maxHeartbeats 1000000 in
theorem smA_any (A A' : Option Addr) (c c' : Nat) (nx mk : List (List Int)) (w : World) (h : AutAt w w.heap.size A c A' c' nx mk) (v : Bool) (hv : v = true ↔ smA nx mk) :
    Calls Try.prog 57 #[.agg #[.slice A nx.length c, .slice A' mk.length c']] w fun e w' => e = .returned (.bool v) ∧ Below w.heap.size w w' := by
  obtain ⟨⟨h1, h2, h3⟩, h4, h5, h6⟩ := h
  have HN := Lib.hid h1
  have HM := Lib.hid h4
  obtain ⟨n, hn⟩ : ∃ n, nx.length = n := ⟨_, rfl⟩
  obtain ⟨m, hm⟩ : ∃ n, mk.length = n := ⟨_, rfl⟩
  have HLN := Lib.hid hn
  have HLM := Lib.hid hm
  have HV := Lib.hid hv
  rw [hn] at h2
  rw [hm] at h5
  rw [hn, hm]
  unfold maxLen at h3 h6
  clear h1 h4 hn hm hv
  obtain ⟨w1, hw1, HB1, HK1⟩ := boxV w 29 #[.slice A n c, .slice A' m c']
  obtain ⟨q0, q1, ql⟩ := blk2 HK1.out
  by_cases g1 : 20 < n ∨ 20 < m
  · obtain rfl : v = false := Bool.eq_false_iff.2 (fun e => by have := (HV.out.1 e).1; rw [HLN.out, HLM.out] at this; omega)
    go_enter Try.func57, Try.ntmps57
    by_cases g2 : 20 < n
    · go_upto_region 1 with fail
      rw [← hw1]
      clear hw1
      go_wp2
      go_ret
      exact ⟨rfl, HB1.out⟩
    · have g3 : 20 < m := by omega
      go_upto_region 1 with fail
      rw [← hw1]
      clear hw1
      go_wp2
      go_ret
      exact ⟨rfl, HB1.out⟩
  · have g2 : ¬ 20 < n := by omega
    have g3 : ¬ 20 < m := by omega
    have d2 : decide (20 < n) = false := decide_eq_false g2
    have d3 : decide (20 < m) = false := decide_eq_false g3
    go_enter Try.func57, Try.ntmps57
    go_upto_region 1 with fail
    rw [← hw1]
    clear hw1
    go_wp2
    go_loopw [3] (fun i wr => ∃ k : Nat, k ≤ n ∧ i = .int .i64 (k : Int) ∧ Hid (∀ r ∈ nx.take k, r.length ≤ 12) ∧ wr = w1) (fun i _ => n - (intOf i).toNat)
    case atStart => exact ⟨0, by omega, rfl, fun r hr => by simp at hr, rfl⟩
    case round =>
      obtain ⟨k, hk, rfl, HK, hw⟩ := hrel
      subst wr
      by_cases hkn : k < n
      · obtain ⟨b, o, A2, c2, r, rfl, hb, hx, cc, l1, l2, _⟩ := (HN.out.below HB1.out).at_ (k := k) (by rw [HLN.out]; exact hkn)
        obtain ⟨z, hz⟩ : ∃ z, r.length = z := ⟨_, rfl⟩
        rw [hz] at cc l1
        have HZ := Lib.hid hz
        clear hz
        by_cases h12 : 12 < z
        · have HF : Hid (v = false) := Bool.eq_false_iff.2 (fun e => by have := (HV.out.1 e).2.1 r (List.mem_of_getElem? hx.out); have := HZ.out; omega)
          go_wp2
          go_ret
          exact ⟨ret_bool HF.out.symm, HB1.out⟩
        · have HK' := Lib.hid (all_snoc (P := fun r : List Int => r.length ≤ 12) HK.out hx.out (by have := HZ.out; omega))
          go_wp2
          go_roundw
          case rel => exact ⟨k + 1, by omega, by go_num, HK', by trivial⟩
          case measure => simp [intOf]; omega
      · have HA := Lib.hid (all_take HK.out (by rw [HLN.out]; omega))
        go_wp2
        go_loopw [4] (fun i wr => ∃ k : Nat, k ≤ m ∧ i = .int .i64 (k : Int) ∧ Hid (∀ r ∈ mk.take k, r.length ≤ 20) ∧ wr = w1) (fun i _ => m - (intOf i).toNat)
        case atStart => exact ⟨0, by omega, rfl, fun r hr => by simp at hr, rfl⟩
        case round =>
          obtain ⟨k', hk', rfl, HK', hw⟩ := hrel
          subst wr
          by_cases hkm : k' < m
          · obtain ⟨b, o, A2, c2, r, rfl, hb, hx, cc, l1, l2, _⟩ := (HM.out.below HB1.out).at_ (k := k') (by rw [HLM.out]; exact hkm)
            obtain ⟨z, hz⟩ : ∃ z, r.length = z := ⟨_, rfl⟩
            rw [hz] at cc l1
            have HZ := Lib.hid hz
            clear hz
            by_cases h20 : 20 < z
            · have HF : Hid (v = false) := Bool.eq_false_iff.2 (fun e => by have := (HV.out.1 e).2.2 r (List.mem_of_getElem? hx.out); have := HZ.out; omega)
              go_wp2
              go_ret
              exact ⟨ret_bool HF.out.symm, HB1.out⟩
            · have HK2 := Lib.hid (all_snoc (P := fun r : List Int => r.length ≤ 20) HK'.out hx.out (by have := HZ.out; omega))
              go_wp2
              go_roundw
              case rel => exact ⟨k' + 1, by omega, by go_num, HK2, by trivial⟩
              case measure => simp [intOf]; omega
          · have HF : Hid (v = true) := HV.out.2 ⟨⟨by rw [HLN.out]; omega, by rw [HLM.out]; omega⟩, HA.out, all_take HK'.out (by rw [HLM.out]; omega)⟩
            go_wp2
            go_ret
            exact ⟨ret_bool HF.out.symm, HB1.out⟩
open Classical in
set_option maxRecDepth 100000 in
set_option maxHeartbeats 1000000 in
theorem smT_any (x : TA) (t : BT) (w : World) (h : TabAt w w.heap.size x t) (v : Bool) (hv : v = true ↔ smT t) :
    Calls Try.prog 30 #[x.val t] w fun e w' => e = .returned (.bool v) ∧ Below w.heap.size w w' := by
  unfold TA.val
  have HT := Lib.hid h
  have HV := Lib.hid hv
  obtain ⟨w1, hw1, HB1, HK1⟩ := boxT w 31 x t
  obtain ⟨q0, q1, q2, q3, q4, q5, ql⟩ := tab6 HK1.out
  clear h hv
  by_cases g0 : ¬ t.cls.length ≤ 8
  · have HF : Hid (v = false) := Bool.eq_false_iff.2 (fun e => by have := (HV.out.1 e).1; omega)
    go_enter Try.func30, Try.ntmps30
    go_upto_region 1 with fail
    rw [← hw1]
    clear hw1
    go_wp2
    go_ret
    exact ⟨ret_bool HF.out.symm, HB1.out⟩
  replace g0 := Classical.not_not.1 g0
  by_cases g1 : ¬ t.act.length ≤ 12
  · have HF : Hid (v = false) := Bool.eq_false_iff.2 (fun e => by have := (HV.out.1 e).1; omega)
    go_enter Try.func30, Try.ntmps30
    go_upto_region 1 with fail
    rw [← hw1]
    clear hw1
    go_wp2
    go_ret
    exact ⟨ret_bool HF.out.symm, HB1.out⟩
  replace g1 := Classical.not_not.1 g1
  by_cases g2 : ¬ smA t.ln t.lm
  · have HF : Hid (v = false) := Bool.eq_false_iff.2 (fun e => g2 (HV.out.1 e).2.1)
    go_enter Try.func30, Try.ntmps30
    go_upto_region 1 with fail
    rw [← hw1]
    clear hw1
    go_wp2_with fail
    refine (smA_any x.ln x.lm x.cln x.clm t.ln t.lm w1 (HT.out.2.2.1.below HB1.out).lt false ⟨fun h => (by cases h), fun h => absurd h g2⟩).mono ?_
    rintro e w2 ⟨rfl, hb2⟩
    have HB2 := Lib.hid (HB1.out.trans (hb2.mono HB1.out.size))
    go_wp2
    go_ret
    exact ⟨ret_bool HF.out.symm, HB2.out⟩
  replace g2 := Classical.not_not.1 g2
  obtain ⟨v', hv'⟩ : ∃ v' : Bool, v' = decide (smA t.rn t.rm) := ⟨_, rfl⟩
  have HF : Hid (v = v') := by
    have h1 : v = true ↔ v' = true := by
      rw [hv', decide_eq_true_iff]
      exact ⟨fun h => (HV.out.1 h).2.2, fun h => HV.out.2 ⟨⟨g0, g1⟩, g2, h⟩⟩
    exact bool_iff h1
  have HV' := Lib.hid hv'
  clear hv'
  go_enter Try.func30, Try.ntmps30
  go_upto_region 1 with fail
  rw [← hw1]
  clear hw1
  go_wp2_with fail
  refine (smA_any x.ln x.lm x.cln x.clm t.ln t.lm w1 (HT.out.2.2.1.below HB1.out).lt true ⟨fun _ => g2, fun _ => rfl⟩).mono ?_
  rintro e w2 ⟨rfl, hb2⟩
  have HB2 := Lib.hid (HB1.out.trans (hb2.mono HB1.out.size))
  have HK2 := Lib.hid (HK1.out.after hb2)
  obtain ⟨r0, r1, r2, r3, r4, r5, rl⟩ := tab6 HK2.out
  clear hb2
  go_wp2_with fail
  refine (smA_any x.rn x.rm x.crn x.crm t.rn t.rm w2 (HT.out.2.2.2.below HB2.out).lt v' (by rw [HV'.out, decide_eq_true_iff])).mono ?_
  rintro e w3 ⟨rfl, hb3⟩
  have HB3 := Lib.hid (HB2.out.trans (hb3.mono HB2.out.size))
  clear hb3
  go_wp2
  go_ret
  exact ⟨ret_bool HF.out.symm, HB3.out⟩
end Go.Proofs.Ytkpblieanejmeaa
