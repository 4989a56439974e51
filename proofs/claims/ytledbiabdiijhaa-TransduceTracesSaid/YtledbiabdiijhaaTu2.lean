/-
  ref51.step, ref51.Data, ref51.Step.
-/
import Derived.Test.YtledbiabdiijhaaTu0
namespace Go.UtYtledbiabdiijhaa
open Go.RowKit
/-- no rule among the first k applies -/
def noneK (rules : List TR) (text : List Int) (p k : Nat) : Prop := ∀ (j : Nat) (r : TR), j < k → rules[j]? = some r → ¬ appl r text p
theorem noneK_succ {rules : List TR} {text : List Int} {p k : Nat} {r : TR} (h : noneK rules text p k) (hk : rules[k]? = some r) (hn : ¬ appl r text p) : noneK rules text p (k + 1) := by
  intro j s hj hs
  rcases Nat.lt_or_ge j k with h1 | h1
  · exact h j s h1 hs
  · obtain rfl : j = k := by omega
    rw [hk] at hs
    cases hs
    exact hn
end Go.UtYtledbiabdiijhaa
namespace Go.Proofs.Ytledbiabdiijhaa
open Go.RowKit Go.UtYtledbiabdiijhaa
set_option maxRecDepth 100000 in
set_option maxHeartbeats 2000000 in
theorem rstep_any (A At : Option Addr) (c ct : Nat) (D : List TR) (text : List Int) (x : Int) (w : World) (hR : RulesAt w w.heap.size A D) (hm : ∀ r ∈ D, midR r) (hd : D.length ≤ 1000000) (hT : Row w w.heap.size At (ints text)) (hl : text.length ≤ 100000000) :
    Calls Try.prog 30 #[.slice A D.length c, .slice At text.length ct, .int .i64 x] w (RetSt w D text x) := by
  have HR := Lib.hid hR
  have HT := Lib.hid hT
  have HM := Lib.hid hm
  obtain ⟨dn, hdn⟩ : ∃ n, D.length = n := ⟨_, rfl⟩
  obtain ⟨nt, hnt⟩ : ∃ n, text.length = n := ⟨_, rfl⟩
  rw [hdn] at hd
  rw [hnt] at hl
  rw [hdn, hnt]
  have HDN := Lib.hid hdn
  have HNT := Lib.hid hnt
  clear hR hT hm hdn hnt
  by_cases hx : 0 ≤ x ∧ x < (nt : Int)
  · obtain ⟨hx0, hx1⟩ := hx
    obtain ⟨p, rfl⟩ : ∃ p : Nat, x = (p : Int) := ⟨x.toNat, by omega⟩
    have t1 : decide (nt ≤ p) = false := decide_eq_false (by omega)
    go_enter Try.func30, Try.ntmps30
    go_wp2
    go_loopw [8] (fun i wr => ∃ k : Nat, k ≤ dn ∧ i = .int .i64 (k : Int) ∧ Hid (noneK D text p k) ∧ Hid (Below w.heap.size w wr)) (fun i _ => dn - (intOf i).toNat)
    case atStart => exact ⟨0, by omega, rfl, fun j r h => by omega, Below.refl _ _⟩
    case round =>
      obtain ⟨k, hk, rfl, HK, HB⟩ := hrel
      have hbs := HB.out.size
      by_cases hkn : k < dn
      · obtain ⟨b, o, v0, v1, v2, v3, r, rfl, hb, hx, HRA, c0, c1, c2, c3⟩ := (HR.out.below HB.out).at_ (k := k) (by rw [HDN.out]; exact hkn)
        have HAP : Hid (∀ v : Bool, (v = true ↔ appl r text p) → Calls Try.prog 39 #[.agg #[v0, v1, v2, v3], .slice At nt ct, .int .i64 (p : Int)] wr fun e w' => e = .returned (.bool v) ∧ Below wr.heap.size wr w') := by
          intro v hv
          have := applies_any r [v0, v1, v2, v3] At ct text p wr (HRA.out.more hbs) (HM.out r (List.mem_of_getElem? hx.out)) ((HT.out.below HB.out).more hbs) (by rw [HNT.out]; omega) (by rw [HNT.out]; exact hl) v hv
          rw [HNT.out] at this
          exact this
        by_cases ha : appl r text p
        · have HIS : Hid (IsStep D text p (k : Int) (r.mat.length : Int)) := .inr ⟨k, r, rfl, hx.out, rfl, ha, fun k' r' h1 h2 => HK.out k' r' h1 h2⟩
          obtain ⟨Ab, cb, Am, cm, Aa, ca, Ar, cr, hvs, hmore⟩ := HRA.out
          simp only [List.cons.injEq, and_true] at hvs
          obtain ⟨rfl, rfl, rfl, rfl⟩ := hvs
          have HA := Lib.hid (HAP.out true ⟨fun _ => ha, fun _ => rfl⟩)
          clear hmore HRA HAP
          go_wp2_with (first | (go_at_call 39; refine HA.out.mono ?_; rintro e w2 ⟨rfl, hb2⟩; have HB2 := Lib.hid (HB.out.trans (hb2.mono hbs)); have d1 := (hb2.cell (p := ⟨b, o + k * 4 + 1, none⟩) (by simp; omega)).trans c1; clear hb2))
          go_quiet (fail)
          go_wp2
          go_ret2
          exact ⟨k, r.mat.length, rfl, .inl ⟨by omega, by rw [HNT.out]; exact hx1, HIS.out⟩, below_drewN HB2.out _⟩
        · have HN := Lib.hid (noneK_succ HK.out hx.out ha)
          have HA := Lib.hid (HAP.out false ⟨fun h => (by cases h), fun h => absurd h ha⟩)
          clear HAP
          go_wp2_with (first | (go_at_call 39; refine HA.out.mono ?_; rintro e w2 ⟨rfl, hb2⟩; have HB2 := Lib.hid (HB.out.trans (hb2.mono hbs)); clear hb2))
          go_roundw
          case rel => exact ⟨k + 1, by omega, by go_num, HN, HB2⟩
          case measure => simp [intOf]; omega
      · obtain rfl : dn = k := by omega
        have HIS : Hid (IsStep D text p (-1) 1) := .inl ⟨rfl, rfl, fun j r hj => HK.out j r (by have := (List.getElem?_eq_some_iff.1 hj).1; rw [HDN.out] at this; exact this) hj⟩
        go_wp2
        go_ret2
        exact ⟨-1, 1, rfl, .inl ⟨by omega, by rw [HNT.out]; exact hx1, HIS.out⟩, HB.out⟩
  · have HN : Hid (StepIs D text x (-1) 0) := .inr ⟨by rw [HNT.out]; exact hx, rfl, rfl⟩
    by_cases h0 : x < 0
    · go_enter Try.func30, Try.ntmps30
      go_wp2
      go_ret2
      exact ⟨-1, 0, rfl, HN.out, Below.refl _ _⟩
    · have h1 : ¬ x < (nt : Int) := by omega
      clear hx
      go_enter Try.func30, Try.ntmps30
      go_wp2
      go_ret2
      exact ⟨-1, 0, rfl, HN.out, Below.refl _ _⟩
/-- the call returns the rules if they are valid, else none -/
def RetD (w : World) (rules : List TR) (e : Ending) (w' : World) : Prop :=
  ∃ (A' : Option Addr) (c' : Nat), e = .returned (.slice A' (dataL rules).length c') ∧ (dataL rules).length ≤ c' ∧ c' ≤ maxLen ∧ RulesAt w w.heap.size A' (dataL rules) ∧ Below w.heap.size w w'
set_option maxRecDepth 100000 in
set_option maxHeartbeats 2000000 in
theorem data_any (A : Option Addr) (c : Nat) (rules : List TR) (w : World) (hR : RulesAt w w.heap.size A rules) (hs : smR rules) (hl : rules.length ≤ c) (hc : c ≤ maxLen) :
    Calls Try.prog 25 #[.slice A rules.length c] w (RetD w rules) := by
  have HR := Lib.hid hR
  have HCK := rcheck_any A c rules w hR hs hl hc
  have HLC := Lib.hid (And.intro hl hc)
  obtain ⟨n, hn⟩ : ∃ n, rules.length = n := ⟨_, rfl⟩
  have HN := Lib.hid hn
  rw [hn] at HCK ⊢
  replace HCK := Lib.hid HCK
  clear hR hs hn hl hc
  by_cases h0 : chkL rules = 0
  · have HD : Hid (dataL rules = rules) := by
      show _ = _
      unfold dataL
      rw [if_pos h0]
    rw [h0] at HCK
    go_enter Try.func25, Try.ntmps25
    go_wp2_with (first | (go_at_call 34; refine HCK.out.mono ?_; rintro e w1 ⟨rfl, hb1⟩; have HB1 := Lib.hid hb1; clear hb1))
    go_ret
    unfold RetD
    rw [HD.out, HN.out]
    exact ⟨A, c, rfl, by rw [← HN.out]; exact HLC.out.1, HLC.out.2, HR.out, HB1.out⟩
  · have HD : Hid (dataL rules = []) := by
      show _ = _
      unfold dataL
      rw [if_neg h0]
    obtain ⟨x, hx⟩ : ∃ x, chkL rules = x := ⟨_, rfl⟩
    rw [hx] at HCK h0
    clear hx
    go_enter Try.func25, Try.ntmps25
    go_wp2_with (first | (go_at_call 34; refine HCK.out.mono ?_; rintro e w1 ⟨rfl, hb1⟩; have HB1 := Lib.hid hb1; clear hb1))
    go_ret
    unfold RetD
    rw [HD.out]
    exact ⟨none, 0, rfl, by simp, by simp [maxLen], RulesAt.nil, HB1.out⟩
theorem data_mid (rules : List TR) : ∀ r ∈ dataL rules, midR r := fun r hr => by
  obtain ⟨⟨h1, h2, h3, h4, h5⟩, _, _⟩ := chk1_ok (data_ok r hr)
  exact ⟨by omega, by omega, by omega⟩
theorem data_200 (rules : List TR) : (dataL rules).length ≤ 200 := by
  unfold dataL
  by_cases h : chkL rules = 0
  · rw [if_pos h]
    rcases Nat.lt_or_ge 200 rules.length with h2 | h2
    · unfold chkL at h
      rw [if_pos h2] at h
      cases h
    · exact h2
  · rw [if_neg h]
    simp
set_option maxRecDepth 100000 in
set_option maxHeartbeats 2000000 in
theorem rStep_any (A At : Option Addr) (c ct : Nat) (rules : List TR) (text : List Int) (x : Int) (w : World) (hR : RulesAt w w.heap.size A rules) (hs : smR rules) (hl : rules.length ≤ c) (hc : c ≤ maxLen) (hT : Row w w.heap.size At (ints text)) (htl : text.length ≤ 100000000) :
    Calls Try.prog 14 #[.slice A rules.length c, .slice At text.length ct, .int .i64 x] w (RetSt w (dataL rules) text x) := by
  have HD := Lib.hid (data_any A c rules w hR hs hl hc)
  have HT := Lib.hid hT
  have HTL := Lib.hid htl
  clear hR hs hl hc hT htl
  go_enter Try.func14, Try.ntmps14
  go_wp2_with (first
    | (go_at_call 30
       refine (rstep_any A' At c' ct (dataL rules) text x w1 ((hru.out.below hb1.out).more hb1.out.size) (data_mid rules) (by have := data_200 rules; omega) ((HT.out.below hb1.out).more hb1.out.size) HTL.out).mono ?_
       rintro e w2 ⟨i, m, rfl, h1, hb2⟩
       have HST := Lib.hid h1
       have HB2 : Hid (Below w.heap.size w w2) := hb1.out.trans (hb2.mono hb1.out.size)
       clear h1 hb2)
    | (go_at_call 25
       refine HD.out.mono ?_
       rintro e w1 ⟨A', c', rfl, _, _, hru, hb1⟩
       replace hru := Lib.hid hru
       replace hb1 := Lib.hid hb1))
  go_ret2
  exact ⟨i, m, rfl, HST.out, HB2.out⟩
end Go.Proofs.Ytledbiabdiijhaa
