/-
  transstream.copied.
-/
import Derived.Test.YtjohoohdjlajcaaEra
import Derived.Test.YtjohoohdjlajcaaTs1
import Derived.Deep.DeepCutAuto
namespace Go.UtYtjohoohdjlajcaa
open Go.RowKit
section
variable {w w' : World} {base e n c g : Nat} {xs : List Value}
theorem own_blk {A : Option Addr} (h : w.ownsRow base e 1 (.slice A n c) n xs) (hn : 0 < n) : ∃ g cur, A = some ⟨g, 0, none⟩ ∧ base ≤ g ∧ Blk w g e cur ∧ n ≤ cur.size ∧ cur.toList.take n = xs := by
  rcases h.2 with ⟨_, h0⟩ | ⟨g, cap, cur, hv, hb, hh, hnc, _, hs, ht⟩
  · omega
  · injection hv with h1 h2 h3
    refine ⟨g, cur, h1, hb, hh, by omega, ?_⟩
    rw [Nat.mul_one] at ht
    exact ht
theorem own_setk {k : Nat} {u : Value} (h : w.ownsRow base e 1 (.slice (some ⟨g, 0, none⟩) n c) n xs) (_hk : k < n) : (w.setCell ⟨g, k, none⟩ u).ownsRow base e 1 (.slice (some ⟨g, 0, none⟩) n c) n (xs.set k u) := by
  refine ⟨by rw [List.length_set]; exact h.1, ?_⟩
  rcases h.2 with ⟨h', _⟩ | ⟨g', cap, cur, hv, hb, hh, hnc, hm, hs, ht⟩
  · cases h'
  · injection hv with h1 h2 h3
    injection h1 with h1
    injection h1 with h1
    subst h1 h3
    refine .inr ⟨g, c, cur.setIfInBounds k u, rfl, hb, ?_, hnc, hm, by simpa using hs, ?_⟩
    · have : Blk w g e cur := hh
      exact this.set_ k u
    · rw [← ht, Nat.mul_one, Array.toList_setIfInBounds, List.take_set]
end
/-- sets that are copied as far as k -/
structure CopS (w wr : World) (g k : Nat) (sets : List (List Rg)) (vs us : List Value) : Prop where
  len : us.length = vs.length
  done : ∀ (j : Nat) (s : List Rg), j < k → sets[j]? = some s → ∃ A'' c'', us[j]? = some (.slice A'' s.length c'') ∧ s.length ≤ c'' ∧ c'' ≤ maxLen ∧ Row (era wr (· < g + 1)) wr.heap.size A'' (prs s)
  left : ∀ j, k ≤ j → us[j]? = vs[j]?
theorem prs_one (l : List (Int × Int)) : ∀ u ∈ prs l, u.oneCell' = true := by
  intro u hu
  simp only [prs, List.mem_flatMap] at hu
  obtain ⟨r, _, hr⟩ := hu
  simp at hr
  rcases hr with rfl | rfl <;> rfl
end Go.UtYtjohoohdjlajcaa
namespace Go.Proofs.Ytjohoohdjlajcaa
open Go.RowKit Go.UtYtjohoohdjlajcaa
set_option maxRecDepth 100000 in
set_option maxHeartbeats 1000000 in
theorem copied_any (A : Option Addr) (c : Nat) (sets : List (List Rg)) (w : World) (hR : SetsAt w w.heap.size A sets) (hn : sets.length ≤ 1000000) (hs : ∀ s ∈ sets, s.length ≤ 1000000) :
    Calls Try.prog 27 #[.slice A sets.length c] w fun e w' => ∃ A' c', e = .returned (.slice A' sets.length c') ∧ sets.length ≤ c' ∧ c' ≤ maxLen ∧ SetsAt (era w' (· < w.heap.size)) w'.heap.size A' sets ∧ Below w.heap.size w w' := by
  obtain ⟨vs, hsv, hrow⟩ := hR.cells
  have HSV := Lib.hid hsv
  have HLS := Lib.hid hs
  have HCL := clone_set A sets.length c vs w hrow (by rw [hsv.1, Nat.mul_one]) hsv.one (by omega)
  obtain ⟨n, hn0⟩ : ∃ n, sets.length = n := ⟨_, rfl⟩
  rw [hn0] at hn HCL ⊢
  have HN := Lib.hid hn0
  replace HCL := Lib.hid HCL
  clear hR hs hn0 hsv hrow
  rcases Nat.eq_zero_or_pos n with rfl | hpos
  · have HE : Hid (sets = []) := List.eq_nil_of_length_eq_zero HN.out
    go_enter Try.func27, Try.ntmps27
    go_wp2_with (first | (go_at_call 43; refine HCL.out.mono ?_; rintro e w1 ⟨A1, c1, rfl, ho1, hb1⟩; have HO1 := Lib.hid ho1; have HB1 := Lib.hid hb1; clear ho1 hb1))
    go_loopw [9] (fun i wr => i = .int .i64 0 ∧ wr = w1) (fun _ _ => 0)
    case atStart => exact ⟨rfl, rfl⟩
    case round =>
      obtain ⟨rfl, hw⟩ := hrel
      subst hw
      go_wp2
      go_ret
      obtain ⟨_, h1, h2⟩ := ow_row HO1.out
      exact ⟨A1, c1, rfl, h1, h2, by rw [HE.out]; exact SetsAt.nil, HB1.out⟩
  · go_enter Try.func27, Try.ntmps27
    go_wp2_with (first | (go_at_call 43; refine HCL.out.mono ?_; rintro e w1 ⟨A1, c1, rfl, ho1, hb1⟩; have HO1 := Lib.hid ho1; have HB1 := Lib.hid hb1; clear ho1 hb1))
    obtain ⟨g, cur, rfl, hg, _, _, _⟩ := own_blk HO1.out hpos
    have HC1 := Lib.hid (ow_row HO1.out).2
    go_loopw [9] (fun i wr => ∃ (k : Nat) (us : List Value), k ≤ n ∧ i = .int .i64 (k : Int) ∧ Hid (CopS w wr g k sets vs us) ∧ Hid (wr.ownsRow w.heap.size 45 1 (.slice (some ⟨g, 0, none⟩) n c1) n us) ∧ Hid (Below w.heap.size w wr)) (fun i _ => n - (intOf i).toNat)
    case atStart => exact ⟨0, vs, by omega, rfl, ⟨rfl, fun j s hj => by omega, fun j _ => rfl⟩, HO1, HB1⟩
    case round =>
      obtain ⟨k, us, hk, rfl, HC, HO, HB⟩ := hrel
      have hbs := HB.out.size
      by_cases hkn : k < n
      · obtain ⟨s, hs⟩ : ∃ s, Hid (sets[k]? = some s) := ⟨_, List.getElem?_eq_getElem (by rw [HN.out]; exact hkn)⟩
        obtain ⟨A', c', hv, l1, l2, hrow⟩ := HSV.out.2 k s hs.out
        have hls := HLS.out s (List.mem_of_getElem? hs.out)
        obtain ⟨g', cur', hg', _, hblk, hcs, hct⟩ := own_blk HO.out hpos
        injection hg' with hg'
        injection hg' with hg'
        subst hg'
        have hcell : cur'[k]? = some (.slice A' s.length c') := by
          have h1 : us[k]? = some (.slice A' s.length c') := by rw [HC.out.left k (Nat.le_refl _)]; exact hv
          rw [← hct, List.getElem?_take, if_pos hkn] at h1
          simpa using h1
        have cc := (hblk.cell k).trans hcell
        have hlt := hblk.lt
        have HRW := Lib.hid hrow
        have HCR := fun (u : World) (hu : Below w.heap.size w u) => clone_rng A' s.length c' (prs s) u ((HRW.out.below hu).more hu.size) (prs_len s) (prs_one s) (by omega)
        obtain ⟨ns, hns⟩ : ∃ n, s.length = n := ⟨_, rfl⟩
        rw [hns] at cc l1 hls HCR
        have HNS := Lib.hid hns
        replace HCR := Lib.hid HCR
        clear hv hrow hns hcell hct hblk hcs
        go_upto_region 5 with fail
        obtain ⟨wb, hwb, HBb, HKb⟩ : ∃ v, v = wr.alloc (.cells #[.slice A' ns c'] 45) ∧ Hid (Below wr.heap.size wr v) ∧ Hid (Blk v wr.heap.size 45 #[.slice A' ns c']) := ⟨_, rfl, (Below.refl _ _).alloc (Nat.le_refl _) _, Blk.new _ _ _⟩
        rw [← hwb]
        clear hwb
        have HBB : Hid (Below w.heap.size w wb) := HB.out.trans (HBb.out.mono hbs)
        have f0 := HKb.out.cell 0
        have f1 := HKb.out.lt
        simp at f0
        go_wp2_with fail
        refine (HCR.out wb HBB.out).mono ?_
        rintro e w3 ⟨A3, c3, rfl, ho3, hb3⟩
        have hsb := HBB.out.size
        have HB3 : Hid (Below wr.heap.size wr w3) := HBb.out.trans (hb3.mono HBb.out.size)
        have HBW3 : Hid (Below w.heap.size w w3) := HB.out.trans (HB3.out.mono hbs)
        have HO3 := Lib.hid (ow_below HO.out HB3.out)
        have hr3 := ow_row ho3
        have HR3 : Hid (Row (era w3 (· < g + 1)) w3.heap.size A3 (prs s)) := hr3.1.era_new (own_new ho3) (fun b hb => by have := HKb.out.lt; omega)
        have HL3 := Lib.hid hr3.2
        obtain ⟨g', cur', hg', _, hblk, hcs, hct⟩ := own_blk HO3.out hpos
        injection hg' with hg'
        injection hg' with hg'
        subst hg'
        have d0 := hblk.cell k
        have d1 := hblk.free k
        have d2 := hblk.lt
        obtain ⟨u0, hu0⟩ : ∃ u, cur'[k]? = some u := ⟨_, Array.getElem?_eq_getElem (by omega)⟩
        rw [hu0] at d0
        have HO4 : Hid ((w3.setCell ⟨g, k, none⟩ (.slice A3 ns c3)).ownsRow w.heap.size 45 1 (.slice (some ⟨g, 0, none⟩) n c1) n (us.set k (.slice A3 ns c3))) := own_setk HO3.out hkn
        have HB4 : Hid (Below w.heap.size w (w3.setCell ⟨g, k, none⟩ (.slice A3 ns c3))) := HBW3.out.setCell (p := ⟨g, k, none⟩) hg _
        have HC4 : Hid (CopS w (w3.setCell ⟨g, k, none⟩ (.slice A3 ns c3)) g (k + 1) sets vs (us.set k (.slice A3 ns c3))) := by
          have hsz : (w3.setCell ⟨g, k, none⟩ (.slice A3 ns c3)).heap.size = w3.heap.size := by simp
          have hkp : ∀ b, b < w3.heap.size → ¬ b < g + 1 → (w3.setCell ⟨g, k, none⟩ (.slice A3 ns c3)).heap[b]? = w3.heap[b]? := fun b _ hb => Below.heap_setCell w3 ⟨g, k, none⟩ _ b (by simp; omega)
          refine ⟨by rw [List.length_set]; exact HC.out.len, fun j t hj ht => ?_, fun j hj => ?_⟩
          · rcases Nat.lt_or_ge j k with h | h
            · obtain ⟨A'', c'', q1, q2, q3, q4⟩ := HC.out.done j t h ht
              refine ⟨A'', c'', by rw [List.getElem?_set_ne (by omega)]; exact q1, q2, q3, ?_⟩
              rw [hsz]
              have q5 : Row (era w3 (· < g + 1)) wr.heap.size A'' (prs t) := q4.era_keep (fun b hb _ => HB3.out.block b hb) (fun b _ h => h)
              exact (q5.more HB3.out.size).era_keep hkp (fun b _ h => h)
            · obtain rfl : j = k := by omega
              rw [hs.out] at ht
              cases ht
              have hul : j < us.length := by
                have h1 := HC.out.len
                have h2 := HSV.out.1
                have h3 := HN.out
                omega
              refine ⟨A3, c3, by rw [List.getElem?_set_self hul, HNS.out], by rw [HNS.out]; exact HL3.out.1, HL3.out.2, ?_⟩
              rw [hsz]
              exact HR3.out.era_keep hkp (fun b _ h => h)
          · rw [List.getElem?_set_ne (by omega)]
            exact HC.out.left j (by omega)
        clear ho3 hb3 hr3 hblk hcs hct hu0
        go_wp2
        go_roundw
        case rel => exact ⟨k + 1, _, by omega, by go_num, HC4, HO4, HB4⟩
        case measure => simp [intOf]; omega
      · obtain rfl : n = k := by omega
        go_wp2
        go_ret
        obtain ⟨hr, h1, h2⟩ := ow_row HO.out
        refine ⟨_, c1, rfl, h1, h2, ?_, HB.out⟩
        refine ⟨us, by rw [HC.out.len]; exact HSV.out.1, hr.era_new (own_new HO.out) (fun b h => h), fun j s hj => ?_⟩
        obtain ⟨A'', c'', q1, q2, q3, q4⟩ := HC.out.done j s (by have := (List.getElem?_eq_some_iff.1 hj).1; rw [HN.out] at this; exact this) hj
        exact ⟨A'', c'', q1, q2, q3, q4.era_keep (fun b _ _ => rfl) (fun b _ h => by omega)⟩
end Go.Proofs.Ytjohoohdjlajcaa
