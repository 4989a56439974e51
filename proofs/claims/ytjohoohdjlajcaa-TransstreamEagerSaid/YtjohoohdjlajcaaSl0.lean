/-
  ref52.Small, law52.few, law52.one.
-/
import Derived.Test.YtjohoohdjlajcaaTs1
import Derived.Test.YtjohoohdjlajcaaTs2
import Derived.Test.YtjohoohdjlajcaaTt0
import Derived.Test.YtjohoohdjlajcaaLst
import Derived.Test.YtjohoohdjlajcaaTm0
import Derived.Laws.Rows
namespace Go.UtYtjohoohdjlajcaa
open Go.RowKit
def smB1 (r : TR) : Prop := (r.bef.length ≤ 20 ∧ r.mat.length ≤ 20 ∧ r.aft.length ≤ 20 ∧ r.res.length ≤ 20) ∧ smS r.bef ∧ smS r.mat ∧ smS r.aft
/-- rules that are few and small enough -/
def smB (rules : List TR) : Prop := rules.length ≤ 220 ∧ ∀ r ∈ rules, smB1 r
theorem smB.smR {rules : List TR} (h : smB rules) : smR rules := fun r hr => (h.2 r hr).2
theorem smb_snoc {α : Type} {l : List α} {P : α → Prop} {k : Nat} {s : α} (h : ∀ s ∈ l.take k, P s) (hk : l[k]? = some s) (hp : P s) : ∀ s ∈ l.take (k + 1), P s := by
  intro t ht
  obtain ⟨hk', e⟩ := List.getElem?_eq_some_iff.1 hk
  rw [List.take_succ_eq_append_getElem hk', e] at ht
  rcases List.mem_append.1 ht with ht | ht
  · exact h t ht
  · rw [List.mem_singleton.1 ht]
    exact hp
theorem smS_all {a b c : List (List Rg)} : (∀ s ∈ a ++ b ++ c, s.length ≤ 12) ↔ smS a ∧ smS b ∧ smS c := by
  constructor
  · intro h
    exact ⟨fun s hs => h s (by simp [hs]), fun s hs => h s (by simp [hs]), fun s hs => h s (by simp [hs])⟩
  · rintro ⟨h1, h2, h3⟩ s hs
    simp only [List.mem_append] at hs
    rcases hs with (hs | hs) | hs
    · exact h1 s hs
    · exact h2 s hs
    · exact h3 s hs
end Go.UtYtjohoohdjlajcaa
namespace Go.Proofs.Ytjohoohdjlajcaa
open Go.RowKit Go.UtYtjohoohdjlajcaa
set_option maxRecDepth 100000 in
set_option maxHeartbeats 4000000 in
theorem smallB_any (A : Option Addr) (c : Nat) (rules : List TR) (w : World) (hR : RulesAt w w.heap.size A rules) (v : Bool) (hv : v = true ↔ smB rules) :
    Calls Try.prog 10 #[.slice A rules.length c] w fun e w' => e = .returned (.bool v) ∧ Below w.heap.size w w' := by
  have HR := Lib.hid hR
  have HV := Lib.hid hv
  obtain ⟨n, hn⟩ : ∃ n, rules.length = n := ⟨_, rfl⟩
  rw [hn]
  have HN := Lib.hid hn
  clear hR hv hn
  obtain ⟨i0, z0, hi0, hz0, hzs, hz1, hz2⟩ := set_zero
  by_cases h220 : 220 < n
  · have HF : Hid (v = false) := by
      show _ = _
      cases v with
      | false => rfl
      | true =>
        have := (HV.out.1 rfl).1
        rw [HN.out] at this
        omega
    go_enter Try.func10, Try.ntmps10
    go_wp2
    go_ret
    exact ⟨ret_bool HF.out.symm, Below.refl _ _⟩
  · have t0 : decide (220 < n) = false := decide_eq_false h220
    go_enter Try.func10, Try.ntmps10
    go_wp2
    go_loopw [3] (fun i wr => ∃ k : Nat, k ≤ n ∧ i = .int .i64 (k : Int) ∧ Hid (∀ r ∈ rules.take k, smB1 r) ∧ Hid (Below w.heap.size w wr)) (fun i _ => n - (intOf i).toNat)
    case atStart => exact ⟨0, by omega, rfl, fun r hr => by simp at hr, Below.refl _ _⟩
    case round =>
      obtain ⟨wo, hwo⟩ : ∃ x, x = wr := ⟨_, rfl⟩
      subst hwo
      obtain ⟨k, hk, rfl, HK, HB⟩ := hrel
      have hbs := HB.out.size
      by_cases hkn : k < n
      · obtain ⟨b, o, v0, v1, v2, v3, r, rfl, hb, hx, HRA, c0, c1, c2, c3⟩ := (HR.out.below HB.out).at_ (k := k) (by rw [HN.out]; exact hkn)
        obtain ⟨Ab, cb, Am, cm, Aa, ca, Ar, cr, hvs, ⟨rb, rm, ra, rr⟩, _⟩ := HRA.out
        simp only [List.cons.injEq, and_true] at hvs
        obtain ⟨rfl, rfl, rfl, rfl⟩ := hvs
        obtain ⟨vb, sb, rb⟩ := rb.cells
        obtain ⟨vm, sm, rm⟩ := rm.cells
        obtain ⟨va, sa, ra⟩ := ra.cells
        have HSV := Lib.hid ((sb.append sm).append sa)
        have HAB := Lib.hid (And.intro sb.one (And.intro sm.one sa.one))
        have lb := Lib.hid sb.1
        have lm := Lib.hid sm.1
        have la := Lib.hid sa.1
        have RB := Lib.hid rb
        have RM := Lib.hid rm
        have RA := Lib.hid ra
        have BAD : Hid (¬ smB1 r → v = false) := fun h => by
          cases v with
          | false => rfl
          | true => exact absurd ((HV.out.1 rfl).2 r (List.mem_of_getElem? hx.out)) h
        obtain ⟨nb, hnb⟩ : ∃ n, r.bef.length = n := ⟨_, rfl⟩
        obtain ⟨nm, hnm⟩ : ∃ n, r.mat.length = n := ⟨_, rfl⟩
        obtain ⟨na, hna⟩ : ∃ n, r.aft.length = n := ⟨_, rfl⟩
        obtain ⟨nr, hnr⟩ : ∃ n, r.res.length = n := ⟨_, rfl⟩
        have HL : Hid (r.bef.length = nb ∧ r.mat.length = nm ∧ r.aft.length = na ∧ r.res.length = nr) := ⟨hnb, hnm, hna, hnr⟩
        rw [hnb] at c0 lb
        rw [hnm] at c1 lm
        rw [hna] at c2 la
        rw [hnr] at c3
        clear hnb hnm hna hnr rb rm ra rr sb sm sa HRA
        go_upto_region 7 with fail
        obtain ⟨wb, hwb, HBb, HKb⟩ : ∃ x, x = wo.alloc (.cells #[.slice Ab nb cb, .slice Am nm cm, .slice Aa na ca, .slice Ar nr cr] 41) ∧ Hid (Below wo.heap.size wo x) ∧ Hid (Blk x wo.heap.size 41 #[.slice Ab nb cb, .slice Am nm cm, .slice Aa na ca, .slice Ar nr cr]) := ⟨_, rfl, (Below.refl _ _).alloc (Nat.le_refl _) _, Blk.new _ _ _⟩
        rw [← hwb]
        clear hwb c0 c1 c2 c3
        have HBB := Lib.hid (HB.out.trans (HBb.out.mono hbs))
        have f0 := HKb.out.cell 0
        have f1 := HKb.out.cell 1
        have f2 := HKb.out.cell 2
        have f3 := HKb.out.cell 3
        have f4 := HKb.out.lt
        simp at f0 f1 f2 f3
        by_cases g1 : 20 < nb
        · have HF : Hid (v = false) := BAD.out (fun h => by have h1 := h.1.1; have h2 := HL.out.1; omega)
          go_wp2
          go_ret
          exact ⟨ret_bool HF.out.symm, HBB.out⟩
        by_cases g2 : 20 < nm
        · have HF : Hid (v = false) := BAD.out (fun h => by have h1 := h.1.2.1; have h2 := HL.out.2.1; omega)
          go_wp2
          go_ret
          exact ⟨ret_bool HF.out.symm, HBB.out⟩
        by_cases g3 : 20 < na
        · have HF : Hid (v = false) := BAD.out (fun h => by have h1 := h.1.2.2.1; have h2 := HL.out.2.2.1; omega)
          go_wp2
          go_ret
          exact ⟨ret_bool HF.out.symm, HBB.out⟩
        by_cases g4 : 20 < nr
        · have HF : Hid (v = false) := BAD.out (fun h => by have h1 := h.1.2.2.2; have h2 := HL.out.2.2.2; omega)
          go_wp2
          go_ret
          exact ⟨ret_bool HF.out.symm, HBB.out⟩
        have hbb := HBB.out.size
        have hsb := HBb.out.size
        go_wp2_with (first
          | (at_builtin
             refine wpList_append_row _ rfl (.tmp 50) (.tmp 52) _ rfl wb.heap.size 45 i0 z0 1 24 Try.underlying38 hi0 hz0 hz1 hz2 hzs (by omega) (.slice A4 (nb + nm) c4) (nb + nm) (vb ++ vm) rfl HO4.out _ _ na ca va rfl (by rw [la.out, Nat.mul_one]) ((RA.out.below (HBb.out.mono (by omega))).below (HB4.out.mono (by omega))) HAB.out.2.2 (by simp only [maxLen]; omega) (by omega) HB4.out.size ?_
             intro q5 w5 o5 g5 t5
             obtain ⟨A5, c5, rfl⟩ := ow_slice (m := nb + nm + na) o5 rfl
             have HB5 : Hid (Below wb.heap.size wb w5) := HB4.out.grown g5 HB4.out.size (fun g hg => own_base HO4.out g hg)
             have HO5 := Lib.hid o5
             clear o5 g5 t5)
          | (at_builtin
             refine wpList_append_row _ rfl (.tmp 46) (.tmp 48) _ rfl wb.heap.size 45 i0 z0 1 24 Try.underlying38 hi0 hz0 hz1 hz2 hzs (by omega) (.slice A3 nb c3) nb vb rfl HO3.out _ _ nm cm vm rfl (by rw [lm.out, Nat.mul_one]) ((RM.out.below (HBb.out.mono (by omega))).below (HB3.out.mono (by omega))) HAB.out.2.1 (by simp only [maxLen]; omega) (by omega) HB3.out.size ?_
             intro q4 w4 o4 g4 t4
             obtain ⟨A4, c4, rfl⟩ := ow_slice (m := nb + nm) o4 rfl
             have HB4 : Hid (Below wb.heap.size wb w4) := HB3.out.grown g4 HB3.out.size (fun g hg => own_base HO3.out g hg)
             have HO4 := Lib.hid o4
             have HK4 := Lib.hid (HKb.out.after HB4.out)
             have p2 := HK4.out.cell 2
             have p3 := HK4.out.lt
             simp at p2
             clear o4 g4 t4)
          | (at_builtin
             refine wpList_append_row _ rfl (.tmp 42) (.tmp 44) _ rfl wb.heap.size 45 i0 z0 1 24 Try.underlying38 hi0 hz0 hz1 hz2 hzs (by omega) (.slice none 0 0) 0 [] rfl (own_nil wb) _ _ nb cb vb rfl (by rw [lb.out, Nat.mul_one]) (RB.out.below (HBb.out.mono (by omega))) HAB.out.1 (by simp only [maxLen]; omega) (by omega) (Nat.le_refl _) ?_
             intro q3 w3 o3 g3' t3
             rw [Nat.zero_add, List.nil_append] at o3
             obtain ⟨A3, c3, rfl⟩ := ow_slice (m := nb) o3 rfl
             have HB3 : Hid (Below wb.heap.size wb w3) := (Below.refl _ _).grown g3' (Nat.le_refl _) (fun g hg => by simp [Value.ownBlock] at hg)
             have HO3 := Lib.hid o3
             have HK3 := Lib.hid (HKb.out.after HB3.out)
             have m2 := HK3.out.cell 1
             have m3 := HK3.out.lt
             simp at m2
             clear o3 g3' t3))
        obtain ⟨hr5, _, _⟩ := ow_row HO5.out
        have HR5 := Lib.hid hr5
        have HBW5 := Lib.hid (HBB.out.trans (HB5.out.mono hbb))
        clear hr5
        obtain ⟨nn, hnn⟩ : ∃ x, nb + nm + na = x := ⟨_, rfl⟩
        rw [hnn]
        have hnn' : nn ≤ 60 := by omega
        have HNN : Hid ((r.bef ++ r.mat ++ r.aft).length = nn) := by
          show _ = _
          rw [List.length_append, List.length_append, HL.out.1, HL.out.2.1, HL.out.2.2.1]
          exact hnn
        clear hnn
        go_loopw [6] (fun i wr => ∃ j : Nat, j ≤ nn ∧ i = .int .i64 (j : Int) ∧ Hid (∀ s ∈ (r.bef ++ r.mat ++ r.aft).take j, s.length ≤ 12) ∧ wr = w5) (fun i _ => nn - (intOf i).toNat)
        case atStart => exact ⟨0, by omega, rfl, fun s hs => by simp at hs, rfl⟩
        case round =>
          obtain ⟨j, hj, rfl, HJ, hw⟩ := hrel
          subst wr
          by_cases hjn : j < nn
          · obtain ⟨s, hs⟩ : ∃ s, Hid ((r.bef ++ r.mat ++ r.aft)[j]? = some s) := ⟨_, List.getElem?_eq_getElem (by rw [HNN.out]; exact hjn)⟩
            obtain ⟨A', c', hvj, _, _, _⟩ := HSV.out.2 j s hs.out
            obtain ⟨bj, oj, vj, rfl, hbj, hvj', cc⟩ := HR5.out.at_ (k := j) (by have := HSV.out.1; have := HNN.out; omega)
            obtain rfl : vj = .slice A' s.length c' := by
              rw [hvj] at hvj'
              injection hvj' with h
              exact h.symm
            obtain ⟨ns, hns⟩ : ∃ n, s.length = n := ⟨_, rfl⟩
            rw [hns] at cc
            have HNS := Lib.hid hns
            clear hns hvj hvj'
            by_cases h12 : 12 < ns
            · have HF : Hid (v = false) := BAD.out (fun h => by have := smS_all.2 h.2 s (List.mem_of_getElem? hs.out); have h2 := HNS.out; omega)
              go_wp2
              go_ret
              exact ⟨ret_bool HF.out.symm, HBW5.out⟩
            · have HJ' := Lib.hid (smb_snoc (P := fun s => s.length ≤ 12) HJ.out hs.out (by have := HNS.out; omega))
              go_wp2
              go_roundw
              case rel => exact ⟨j + 1, by omega, by go_num, HJ', by trivial⟩
              case measure => simp [intOf]; omega
          · obtain rfl : nn = j := by omega
            have HK' := Lib.hid (smb_snoc (P := smB1) HK.out hx.out ⟨⟨by rw [HL.out.1]; omega, by rw [HL.out.2.1]; omega, by rw [HL.out.2.2.1]; omega, by rw [HL.out.2.2.2]; omega⟩, smS_all.1 (fun s hs => HJ.out s (by rw [List.take_of_length_le (by rw [HNN.out]; exact Nat.le_refl _)]; exact hs))⟩)
            go_wp2
            go_roundw
            case rel => exact ⟨k + 1, by omega, by go_num, HK', HBW5⟩
            case measure => simp [intOf]; omega
      · obtain rfl : n = k := by omega
        have HF : Hid (v = true) := HV.out.2 ⟨by rw [HN.out]; omega, fun r hr => HK.out r (by rw [List.take_of_length_le (by rw [HN.out]; exact Nat.le_refl _)]; exact hr)⟩
        go_wp2
        go_ret
        exact ⟨ret_bool HF.out.symm, HB.out⟩
set_option maxRecDepth 100000 in
set_option maxHeartbeats 1000000 in
theorem few52_any (A : Option Addr) (c : Nat) (l : List (List Int)) (w : World) (hR : Rows2 w w.heap.size A l) (v : Bool) (hv : v = true ↔ l.length ≤ 8 ∧ ∀ t ∈ l, t.length ≤ 30) :
    Calls Try.prog 11 #[.slice A l.length c] w fun e w' => e = .returned (.bool v) ∧ w' = w := by
  have HR := Lib.hid hR
  have HV := Lib.hid hv
  obtain ⟨n, hn⟩ : ∃ n, l.length = n := ⟨_, rfl⟩
  rw [hn]
  have HN := Lib.hid hn
  clear hR hv hn
  by_cases h8 : 8 < n
  · have HF : Hid (v = false) := by
      show _ = _
      cases v with
      | false => rfl
      | true =>
        have := (HV.out.1 rfl).1
        rw [HN.out] at this
        omega
    go_enter Try.func11, Try.ntmps11
    go_wp2
    go_ret
    exact ⟨ret_bool HF.out.symm, rfl⟩
  · have t0 : decide (8 < n) = false := decide_eq_false h8
    go_enter Try.func11, Try.ntmps11
    go_wp2
    go_loopw [3] (fun i wr => ∃ k : Nat, k ≤ n ∧ i = .int .i64 (k : Int) ∧ Hid (∀ t ∈ l.take k, t.length ≤ 30) ∧ wr = w) (fun i _ => n - (intOf i).toNat)
    case atStart => exact ⟨0, by omega, rfl, fun r hr => by simp at hr, rfl⟩
    case round =>
      obtain ⟨k, hk, rfl, HK, hw⟩ := hrel
      subst wr
      by_cases hkn : k < n
      · obtain ⟨vs, r1, r2, r3⟩ := HR.out
        obtain ⟨t, ht⟩ : ∃ t, Hid (l[k]? = some t) := ⟨_, List.getElem?_eq_getElem (by rw [HN.out]; exact hkn)⟩
        obtain ⟨A', c', hvk, _⟩ := r3 k t ht.out
        obtain ⟨b, o, u, rfl, hb, hu, cc⟩ := r2.at_ (k := k) (by rw [r1, HN.out]; exact hkn)
        obtain rfl : u = .slice A' t.length c' := by
          rw [hvk] at hu
          injection hu with h
          exact h.symm
        obtain ⟨nt, hnt⟩ : ∃ n, t.length = n := ⟨_, rfl⟩
        rw [hnt] at cc
        have HNT := Lib.hid hnt
        clear hnt hvk hu r1 r2 r3
        by_cases h30 : 30 < nt
        · have HF : Hid (v = false) := by
            show _ = _
            cases v with
            | false => rfl
            | true =>
              have := (HV.out.1 rfl).2 t (List.mem_of_getElem? ht.out)
              have h2 := HNT.out
              omega
          go_wp2
          go_ret
          exact ⟨ret_bool HF.out.symm, rfl⟩
        · have HK' := Lib.hid (smb_snoc (P := fun t : List Int => t.length ≤ 30) HK.out ht.out (by have := HNT.out; omega))
          go_wp2
          go_roundw
          case rel => exact ⟨k + 1, by omega, by go_num, HK', by trivial⟩
          case measure => simp [intOf]; omega
      · obtain rfl : n = k := by omega
        have HF : Hid (v = true) := HV.out.2 ⟨by rw [HN.out]; omega, fun t ht => HK.out t (by rw [List.take_of_length_le (by rw [HN.out]; exact Nat.le_refl _)]; exact ht)⟩
        go_wp2
        go_ret
        exact ⟨ret_bool HF.out.symm, rfl⟩
theorem lone52_any (x : Int) (w : World) : Calls Try.prog 25 #[.int .i64 x] w fun e w' => ∃ A', e = .returned (.agg #[.slice A' 1 1]) ∧ Row w' w'.heap.size A' (prs [(x, x)]) ∧ Below w.heap.size w w' := by
  go_enter Try.func25, Try.ntmps25
  go_wp2
  refine bodyPost_ret (v := .agg #[.slice (some ⟨w.heap.size + 1, 0, none⟩) 1 1]) ?_ rfl ⟨_, rfl, ?_, below_box2 w _ _⟩
  · simp [results, Try.results25, go_sem]
  · have := (Blk.new (w.alloc (.cells #[.slice (some ⟨w.heap.size + 1, 0, none⟩) 1 1] 45)) 71 #[.int .i64 x, .int .i64 x]).row (vs := prs [(x, x)]) rfl
    rw [World.size_alloc w] at this
    exact this
end Go.Proofs.Ytjohoohdjlajcaa
