/-
  ref50.Small (printed by ts6.py).
-/
import Derived.Test.YtledbiabdiijhaaTs5
namespace Go.UtYtledbiabdiijhaa
open Go.RowKit
def smT (l : List (List Rg)) : Prop := smS l ∧ l.length ≤ 10
def smOne (r : TR) : Prop := smT r.bef ∧ smT r.mat ∧ smT r.aft ∧ r.res.length ≤ 20
/-- rules that are few and small -/
def smL (rules : List TR) : Prop := rules.length ≤ 6 ∧ ∀ r ∈ rules, smOne r
theorem smL.smR {rules : List TR} (h : smL rules) : smR rules := fun r hr => ⟨(h.2 r hr).1.1, (h.2 r hr).2.1.1, (h.2 r hr).2.2.1.1⟩
theorem smo_snoc {l : List TR} {k : Nat} {s : TR} (h : ∀ s ∈ l.take k, smOne s) (hk : l[k]? = some s) (hp : smOne s) : ∀ s ∈ l.take (k + 1), smOne s := by
  intro t ht
  obtain ⟨hk', e⟩ := List.getElem?_eq_some_iff.1 hk
  rw [List.take_succ_eq_append_getElem hk', e] at ht
  rcases List.mem_append.1 ht with ht | ht
  · exact h t ht
  · rw [List.mem_singleton.1 ht]
    exact hp
end Go.UtYtledbiabdiijhaa
namespace Go.Proofs.Ytledbiabdiijhaa
open Go.RowKit Go.UtYtledbiabdiijhaa
set_option maxRecDepth 100000 in
set_option maxHeartbeats 4000000 in
theorem smallR_any (A : Option Addr) (c : Nat) (rules : List TR) (w : World) (hR : RulesAt w w.heap.size A rules) (hl : rules.length ≤ c) (_hc : c ≤ maxLen) (v : Bool) (hv : v = true ↔ smL rules) :
    Calls Try.prog 19 #[.slice A rules.length c] w fun e w' => e = .returned (.bool v) ∧ Below w.heap.size w w' := by
  have HR := Lib.hid hR
  have HV := Lib.hid hv
  unfold maxLen at _hc
  obtain ⟨n, hn⟩ : ∃ n, rules.length = n := ⟨_, rfl⟩
  rw [hn] at hl ⊢
  clear hR hv
  go_enter Try.func19, Try.ntmps19
  go_wp2
  go_loopw [3] (fun i wr => ∃ k : Nat, k ≤ n ∧ k ≤ 10 ∧ i = .int .i64 (k : Int) ∧ Hid (∀ s ∈ rules.take k, smOne s) ∧ Hid (Below w.heap.size w wr)) (fun i _ => n - (intOf i).toNat)
  case atStart => exact ⟨0, by omega, by omega, rfl, fun s hs => by simp at hs, Below.refl _ _⟩
  case round =>
    obtain ⟨k, hk, hk20, rfl, HK, HB⟩ := hrel
    have hbs := HB.out.size
    by_cases h1 : k < n
    · by_cases h20 : k < 10
      · obtain ⟨b, o, v0, v1, v2, v3, r, rfl, hb, hx, HRA, c0, c1, c2, c3⟩ := HR.out.at_ (k := k) (by omega)
        obtain ⟨Ab, cb, Am, cm, Aa, ca, Ar, cr, hvs, ⟨rb, rm, ra, rr⟩, ⟨b1, b2⟩, ⟨m1, m2⟩, ⟨a1, a2⟩, ⟨r1, r2⟩⟩ := HRA.out
        simp only [List.cons.injEq, and_true] at hvs
        obtain ⟨rfl, rfl, rfl, rfl⟩ := hvs
        have CB := fun (w' : World) (hw : Below w.heap.size w w') (v : Bool) (hv : v = true ↔ smT r.bef) => rsets_any Ab cb r.bef w' ((rb.below hw).more hw.size) b1 b2 v hv
        have CM := fun (w' : World) (hw : Below w.heap.size w w') (v : Bool) (hv : v = true ↔ smT r.mat) => rsets_any Am cm r.mat w' ((rm.below hw).more hw.size) m1 m2 v hv
        have CA := fun (w' : World) (hw : Below w.heap.size w w') (v : Bool) (hv : v = true ↔ smT r.aft) => rsets_any Aa ca r.aft w' ((ra.below hw).more hw.size) a1 a2 v hv
        replace c0 := (HB.out.cell (p := ⟨b, o + k * 4, none⟩) hb).trans c0
        replace c1 := (HB.out.cell (p := ⟨b, o + k * 4 + 1, none⟩) hb).trans c1
        replace c2 := (HB.out.cell (p := ⟨b, o + k * 4 + 2, none⟩) hb).trans c2
        replace c3 := (HB.out.cell (p := ⟨b, o + k * 4 + 3, none⟩) hb).trans c3
        unfold maxLen at b2 m2 a2 r2
        obtain ⟨nb, hnb⟩ : ∃ n, r.bef.length = n := ⟨_, rfl⟩
        obtain ⟨nm, hnm⟩ : ∃ n, r.mat.length = n := ⟨_, rfl⟩
        obtain ⟨na, hna⟩ : ∃ n, r.aft.length = n := ⟨_, rfl⟩
        obtain ⟨nr, hnr⟩ : ∃ n, r.res.length = n := ⟨_, rfl⟩
        rw [hnb] at b1 c0 CB
        rw [hnm] at m1 c1 CM
        rw [hna] at a1 c2 CA
        rw [hnr] at r1 c3
        replace CB := Lib.hid CB
        replace CM := Lib.hid CM
        replace CA := Lib.hid CA
        have HNR := Lib.hid hnr
        have BAD : Hid (¬ smOne r → v = false) := fun h => by
          cases v with
          | false => rfl
          | true => exact absurd ((HV.out.1 rfl).2 r (List.mem_of_getElem? hx.out)) h
        clear rb rm ra rr HRA hnr
        by_cases ob : smT r.bef
        case neg =>
          have HF : Hid (v = false) := BAD.out (fun h => ob h.1)
          go_wp2_with (first | (go_at_call 33; refine (CB.out wr HB.out false ⟨fun h => (by cases h), fun h => absurd h ob⟩).mono ?_; rintro e w2 ⟨rfl, hb2⟩; have HB2 := Lib.hid (HB.out.trans (hb2.mono HB.out.size)); have p0 := ((hb2.mono hbs).cell (p := ⟨b, o + k * 4 + 1, none⟩) hb).trans c1; have p1 := ((hb2.mono hbs).cell (p := ⟨b, o + k * 4 + 2, none⟩) hb).trans c2; have p2 := ((hb2.mono hbs).cell (p := ⟨b, o + k * 4 + 3, none⟩) hb).trans c3; clear hb2))
          go_ret
          exact ⟨ret_bool HF.out.symm, HB2.out⟩
        case pos =>
          by_cases om : smT r.mat
          case neg =>
            have HF : Hid (v = false) := BAD.out (fun h => om h.2.1)
            go_wp2_with (first | (go_at_call 33; refine (CM.out w2 HB2.out false ⟨fun h => (by cases h), fun h => absurd h om⟩).mono ?_; rintro e w3 ⟨rfl, hb3⟩; have HB3 := Lib.hid (HB2.out.trans (hb3.mono HB2.out.size)); have p3 := ((hb3.mono HB2.out.size).cell (p := ⟨b, o + k * 4 + 2, none⟩) hb).trans p1; have p4 := ((hb3.mono HB2.out.size).cell (p := ⟨b, o + k * 4 + 3, none⟩) hb).trans p2; clear hb3) | (go_at_call 33; refine (CB.out wr HB.out true ⟨fun _ => ob, fun _ => rfl⟩).mono ?_; rintro e w2 ⟨rfl, hb2⟩; have HB2 := Lib.hid (HB.out.trans (hb2.mono HB.out.size)); have p0 := ((hb2.mono hbs).cell (p := ⟨b, o + k * 4 + 1, none⟩) hb).trans c1; have p1 := ((hb2.mono hbs).cell (p := ⟨b, o + k * 4 + 2, none⟩) hb).trans c2; have p2 := ((hb2.mono hbs).cell (p := ⟨b, o + k * 4 + 3, none⟩) hb).trans c3; clear hb2))
            go_ret
            exact ⟨ret_bool HF.out.symm, HB3.out⟩
          case pos =>
            by_cases oa : smT r.aft
            case neg =>
              have HF : Hid (v = false) := BAD.out (fun h => oa h.2.2.1)
              go_wp2_with (first | (go_at_call 33; refine (CA.out w3 HB3.out false ⟨fun h => (by cases h), fun h => absurd h oa⟩).mono ?_; rintro e w4 ⟨rfl, hb4⟩; have HB4 := Lib.hid (HB3.out.trans (hb4.mono HB3.out.size)); have p5 := ((hb4.mono HB3.out.size).cell (p := ⟨b, o + k * 4 + 3, none⟩) hb).trans p4; clear hb4) | (go_at_call 33; refine (CM.out w2 HB2.out true ⟨fun _ => om, fun _ => rfl⟩).mono ?_; rintro e w3 ⟨rfl, hb3⟩; have HB3 := Lib.hid (HB2.out.trans (hb3.mono HB2.out.size)); have p3 := ((hb3.mono HB2.out.size).cell (p := ⟨b, o + k * 4 + 2, none⟩) hb).trans p1; have p4 := ((hb3.mono HB2.out.size).cell (p := ⟨b, o + k * 4 + 3, none⟩) hb).trans p2; clear hb3) | (go_at_call 33; refine (CB.out wr HB.out true ⟨fun _ => ob, fun _ => rfl⟩).mono ?_; rintro e w2 ⟨rfl, hb2⟩; have HB2 := Lib.hid (HB.out.trans (hb2.mono HB.out.size)); have p0 := ((hb2.mono hbs).cell (p := ⟨b, o + k * 4 + 1, none⟩) hb).trans c1; have p1 := ((hb2.mono hbs).cell (p := ⟨b, o + k * 4 + 2, none⟩) hb).trans c2; have p2 := ((hb2.mono hbs).cell (p := ⟨b, o + k * 4 + 3, none⟩) hb).trans c3; clear hb2))
              go_ret
              exact ⟨ret_bool HF.out.symm, HB4.out⟩
            case pos =>
              by_cases h6 : (nr : Int) ≤ 20
              case neg =>
                have HF : Hid (v = false) := BAD.out (fun h => by have := h.2.2.2; have := HNR.out; omega)
                go_wp2_with (first | (go_at_call 33; refine (CA.out w3 HB3.out true ⟨fun _ => oa, fun _ => rfl⟩).mono ?_; rintro e w4 ⟨rfl, hb4⟩; have HB4 := Lib.hid (HB3.out.trans (hb4.mono HB3.out.size)); have p5 := ((hb4.mono HB3.out.size).cell (p := ⟨b, o + k * 4 + 3, none⟩) hb).trans p4; clear hb4) | (go_at_call 33; refine (CM.out w2 HB2.out true ⟨fun _ => om, fun _ => rfl⟩).mono ?_; rintro e w3 ⟨rfl, hb3⟩; have HB3 := Lib.hid (HB2.out.trans (hb3.mono HB2.out.size)); have p3 := ((hb3.mono HB2.out.size).cell (p := ⟨b, o + k * 4 + 2, none⟩) hb).trans p1; have p4 := ((hb3.mono HB2.out.size).cell (p := ⟨b, o + k * 4 + 3, none⟩) hb).trans p2; clear hb3) | (go_at_call 33; refine (CB.out wr HB.out true ⟨fun _ => ob, fun _ => rfl⟩).mono ?_; rintro e w2 ⟨rfl, hb2⟩; have HB2 := Lib.hid (HB.out.trans (hb2.mono HB.out.size)); have p0 := ((hb2.mono hbs).cell (p := ⟨b, o + k * 4 + 1, none⟩) hb).trans c1; have p1 := ((hb2.mono hbs).cell (p := ⟨b, o + k * 4 + 2, none⟩) hb).trans c2; have p2 := ((hb2.mono hbs).cell (p := ⟨b, o + k * 4 + 3, none⟩) hb).trans c3; clear hb2))
                go_ret
                exact ⟨ret_bool HF.out.symm, HB4.out⟩
              case pos =>
                have HK' := Lib.hid (smo_snoc HK.out hx.out ⟨ob, om, oa, by have := HNR.out; omega⟩)
                go_wp2_with (first | (go_at_call 33; refine (CA.out w3 HB3.out true ⟨fun _ => oa, fun _ => rfl⟩).mono ?_; rintro e w4 ⟨rfl, hb4⟩; have HB4 := Lib.hid (HB3.out.trans (hb4.mono HB3.out.size)); have p5 := ((hb4.mono HB3.out.size).cell (p := ⟨b, o + k * 4 + 3, none⟩) hb).trans p4; clear hb4) | (go_at_call 33; refine (CM.out w2 HB2.out true ⟨fun _ => om, fun _ => rfl⟩).mono ?_; rintro e w3 ⟨rfl, hb3⟩; have HB3 := Lib.hid (HB2.out.trans (hb3.mono HB2.out.size)); have p3 := ((hb3.mono HB2.out.size).cell (p := ⟨b, o + k * 4 + 2, none⟩) hb).trans p1; have p4 := ((hb3.mono HB2.out.size).cell (p := ⟨b, o + k * 4 + 3, none⟩) hb).trans p2; clear hb3) | (go_at_call 33; refine (CB.out wr HB.out true ⟨fun _ => ob, fun _ => rfl⟩).mono ?_; rintro e w2 ⟨rfl, hb2⟩; have HB2 := Lib.hid (HB.out.trans (hb2.mono HB.out.size)); have p0 := ((hb2.mono hbs).cell (p := ⟨b, o + k * 4 + 1, none⟩) hb).trans c1; have p1 := ((hb2.mono hbs).cell (p := ⟨b, o + k * 4 + 2, none⟩) hb).trans c2; have p2 := ((hb2.mono hbs).cell (p := ⟨b, o + k * 4 + 3, none⟩) hb).trans c3; clear hb2))
                go_roundw
                case rel => exact ⟨k + 1, by omega, by omega, by go_num, HK', HB4⟩
                case measure => simp [intOf]; omega
      · obtain rfl : k = 10 := by omega
        have HF : Hid (v = false) := by
          show _ = _
          cases v with
          | false => rfl
          | true =>
            have := (HV.out.1 rfl).1
            omega
        go_wp2
        go_ret
        exact ⟨ret_bool (by rw [HF.out]; simp; omega), HB.out⟩
    · obtain rfl : k = n := by omega
      have HF : Hid (v = decide ((k : Int) ≤ 6)) := by
        show _ = _
        rw [Bool.eq_iff_iff, HV.out, decide_eq_true_iff]
        constructor
        · intro h
          have := h.1
          omega
        · intro h
          exact ⟨by omega, fun s hs => HK.out s (by rw [List.take_of_length_le (by omega)]; exact hs)⟩
      go_wp2
      go_ret
      exact ⟨ret_bool HF.out.symm, HB.out⟩
end Go.Proofs.Ytledbiabdiijhaa
