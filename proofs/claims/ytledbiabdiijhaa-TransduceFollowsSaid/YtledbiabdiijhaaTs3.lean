/-
  ref50.sets, ref50.right: lists of sets.
-/
import Derived.Test.YtledbiabdiijhaaTs2
import Derived.Test.YtledbiabdiijhaaCs2
namespace Go.UtYtledbiabdiijhaa
open Go.RowKit
theorem sm_snoc {l : List (List Rg)} {P : List Rg → Prop} {k : Nat} {s : List Rg} (h : ∀ s ∈ l.take k, P s) (hk : l[k]? = some s) (hp : P s) : ∀ s ∈ l.take (k + 1), P s := by
  intro t ht
  obtain ⟨hk', e⟩ := List.getElem?_eq_some_iff.1 hk
  rw [List.take_succ_eq_append_getElem hk', e] at ht
  rcases List.mem_append.1 ht with ht | ht
  · exact h t ht
  · rw [List.mem_singleton.1 ht]
    exact hp
end Go.UtYtledbiabdiijhaa
namespace Go.Proofs.Ytledbiabdiijhaa
open Go.RowKit Go.UtYtledbiabdiijhaa
set_option maxRecDepth 100000 in
set_option maxHeartbeats 1000000 in
theorem rsets_any (A : Option Addr) (c : Nat) (l : List (List Rg)) (w : World) (hR : SetsAt w w.heap.size A l) (hl : l.length ≤ c) (_hc : c ≤ maxLen) (v : Bool) (hv : v = true ↔ smS l ∧ l.length ≤ 10) :
    Calls Try.prog 33 #[.slice A l.length c] w fun e w' => e = .returned (.bool v) ∧ Below w.heap.size w w' := by
  have HR := Lib.hid hR
  have HV := Lib.hid hv
  unfold maxLen at _hc
  obtain ⟨n, hn⟩ : ∃ n, l.length = n := ⟨_, rfl⟩
  rw [hn] at hl HV ⊢
  clear hR hv
  go_enter Try.func33, Try.ntmps33
  go_wp2
  go_loopw [3] (fun i wr => ∃ k : Nat, k ≤ n ∧ k ≤ 20 ∧ i = .int .i64 (k : Int) ∧ Hid (∀ s ∈ l.take k, s.length ≤ 12) ∧ Hid (Below w.heap.size w wr)) (fun i _ => n - (intOf i).toNat)
  case atStart => exact ⟨0, by omega, by omega, rfl, fun s hs => by simp at hs, Below.refl _ _⟩
  case round =>
    obtain ⟨k, hk, hk20, rfl, HK, HB⟩ := hrel
    have hbs := HB.out.size
    by_cases h1 : k < n
    · by_cases h20 : k < 20
      · obtain ⟨b, o, A', c', s, rfl, hb, hx, cc, l1, l2, HS⟩ := (HR.out.below HB.out).at_ (k := k) (by omega)
        obtain ⟨ns, hns⟩ : ∃ ns, s.length = ns := ⟨_, rfl⟩
        rw [hns] at cc l1
        unfold maxLen at l2
        by_cases h12 : (ns : Int) ≤ 12
        · have HK' := Lib.hid (sm_snoc (P := fun s => s.length ≤ 12) HK.out hx.out (by omega))
          go_wp2_with (first | (go_at_call 40; refine (small_any _ _ _ _ true (decide_eq_true h12)).mono ?_; rintro e w2 ⟨rfl, hb2⟩; have HB2 := Lib.hid (HB.out.trans (hb2.mono hbs)); clear hb2))
          go_roundw
          case rel => exact ⟨k + 1, by omega, by omega, by go_num, HK', HB2⟩
          case measure => simp [intOf]; omega
        · have HF : Hid (v = false) := by
            show _ = _
            cases v with
            | false => rfl
            | true =>
              have := (HV.out.1 rfl).1 s (List.mem_of_getElem? hx.out)
              omega
          go_wp2_with (first | (go_at_call 40; refine (small_any _ _ _ _ false (decide_eq_false h12)).mono ?_; rintro e w2 ⟨rfl, hb2⟩; have HB2 := Lib.hid (HB.out.trans (hb2.mono hbs)); clear hb2))
          go_ret
          exact ⟨ret_bool HF.out.symm, HB2.out⟩
      · obtain rfl : k = 20 := by omega
        have HF : Hid (v = false) := by
          show _ = _
          cases v with
          | false => rfl
          | true =>
            have := (HV.out.1 rfl).2
            omega
        go_wp2
        go_ret
        exact ⟨ret_bool (by rw [HF.out]; simp; omega), HB.out⟩
    · obtain rfl : k = n := by omega
      have HF : Hid (v = decide ((k : Int) ≤ 10)) := by
        show _ = _
        rw [Bool.eq_iff_iff, HV.out, decide_eq_true_iff]
        constructor
        · intro h
          have := h.2
          omega
        · intro h
          exact ⟨fun s hs => HK.out s (by rw [List.take_of_length_le (by omega)]; exact hs), by omega⟩
      go_wp2
      go_ret
      exact ⟨ret_bool HF.out.symm, HB.out⟩
set_option maxRecDepth 100000 in
set_option maxHeartbeats 1000000 in
theorem right_any (A : Option Addr) (c : Nat) (l : List (List Rg)) (w : World) (hR : SetsAt w w.heap.size A l) (hl : l.length ≤ c) (hc : c ≤ maxLen) (hs : smS l) (v : Bool) (hv : v = true ↔ ∀ s ∈ l, okS s) :
    Calls Try.prog 45 #[.slice A l.length c] w fun e w' => e = .returned (.bool v) ∧ Below w.heap.size w w' := by
  have HR := Lib.hid hR
  have HV := Lib.hid hv
  have HSM := Lib.hid hs
  unfold maxLen at hc
  obtain ⟨n, hn⟩ : ∃ n, l.length = n := ⟨_, rfl⟩
  rw [hn] at hl ⊢
  clear hR hv hs
  go_enter Try.func45, Try.ntmps45
  go_wp2
  go_loopw [3] (fun i wr => ∃ k : Nat, k ≤ n ∧ i = .int .i64 (k : Int) ∧ Hid (∀ s ∈ l.take k, okS s) ∧ Hid (Below w.heap.size w wr)) (fun i _ => n - (intOf i).toNat)
  case atStart => exact ⟨0, by omega, rfl, fun s hs => by simp at hs, Below.refl _ _⟩
  case round =>
    obtain ⟨k, hk, rfl, HK, HB⟩ := hrel
    have hbs := HB.out.size
    by_cases h1 : k < n
    · obtain ⟨b, o, A', c', s, rfl, hb, hx, cc, l1, l2, HS⟩ := (HR.out.below HB.out).at_ (k := k) (by omega)
      have hs12 := HSM.out s (List.mem_of_getElem? hx.out)
      have BAD : Hid (¬ okS s → v = false) := fun h => by
        cases v with
        | false => rfl
        | true => exact absurd (HV.out.1 rfl s (List.mem_of_getElem? hx.out)) h
      have HRS := Lib.hid ((HS.out.more hbs))
      by_cases hcn : Cnn s
      · have HCV := rValid_any A' c' s wr HRS.out (by omega) true ⟨fun _ => hcn, fun _ => rfl⟩
        obtain ⟨ns, hns⟩ : ∃ ns, s.length = ns := ⟨_, rfl⟩
        rw [hns] at cc l1 hs12 HCV
        have HCV := Lib.hid HCV
        unfold maxLen at l2
        by_cases h0 : ns = 0
        · subst h0
          have HF : Hid (v = false) := BAD.out (fun h => h.2 (List.eq_nil_of_length_eq_zero hns))
          go_wp2_with (first | (go_at_call 49; refine HCV.out.mono ?_; rintro e w2 ⟨rfl, hb2⟩; have HB2 := Lib.hid (HB.out.trans (hb2.mono hbs)); have cc2 := ((hb2.mono hbs).cell (p := ⟨b, o + k, none⟩) hb).trans cc; clear hb2))
          go_ret
          exact ⟨ret_bool HF.out.symm, HB2.out⟩
        · have HK' := Lib.hid (sm_snoc (P := okS) HK.out hx.out ⟨hcn, fun h => h0 (by rw [← hns, h]; rfl)⟩)
          go_wp2_with (first | (go_at_call 49; refine HCV.out.mono ?_; rintro e w2 ⟨rfl, hb2⟩; have HB2 := Lib.hid (HB.out.trans (hb2.mono hbs)); have cc2 := ((hb2.mono hbs).cell (p := ⟨b, o + k, none⟩) hb).trans cc; clear hb2))
          go_roundw
          case rel => exact ⟨k + 1, by omega, by go_num, HK', HB2⟩
          case measure => simp [intOf]; omega
      · have HCV := Lib.hid (rValid_any A' c' s wr HRS.out (by omega) false ⟨fun h => (by cases h), fun h => absurd h hcn⟩)
        have HF : Hid (v = false) := BAD.out (fun h => hcn h.1)
        go_wp2_with (first | (go_at_call 49; refine HCV.out.mono ?_; rintro e w2 ⟨rfl, hb2⟩; have HB2 := Lib.hid (HB.out.trans (hb2.mono hbs)); clear hb2))
        go_ret
        exact ⟨ret_bool HF.out.symm, HB2.out⟩
    · obtain rfl : k = n := by omega
      have HF : Hid (v = true) := HV.out.2 (fun s hs => HK.out s (by rw [List.take_of_length_le (by omega)]; exact hs))
      go_wp2
      go_ret
      exact ⟨ret_bool HF.out.symm, HB.out⟩
end Go.Proofs.Ytledbiabdiijhaa
