/-
  segment.value by sort.Search.
-/
import Derived.Test.YtkpblieanejmeaaBq1
namespace Go.UtYtkpblieanejmeaa
theorem span_asc {n : Nat} {l : List (Int × Int × Int)} (h : spansOk n l) : ∀ (d i : Nat) (p s : Int × Int × Int), l[i]? = some p → l[i + 1 + d]? = some s → p.2.1 < s.1
  | 0, i, p, s, hp, hs => (h.2 i p s hp hs).1
  | d + 1, i, p, s, hp, hs => by
    obtain ⟨q, hq⟩ : ∃ q, l[i + 1 + d]? = some q := by
      have := (List.getElem?_eq_some_iff.1 hs).1
      exact ⟨_, List.getElem?_eq_getElem (by omega)⟩
    have h1 := span_asc h d i p q hp hq
    have h2 := (h.2 (i + 1 + d) q s hq hs).1
    have h3 := (h.1 q (List.mem_of_getElem? hq)).2.1
    omega
theorem span_lt {n : Nat} {l : List (Int × Int × Int)} (h : spansOk n l) {i j : Nat} {p s : Int × Int × Int} (hij : i < j) (hp : l[i]? = some p) (hs : l[j]? = some s) : p.2.1 < s.1 :=
  span_asc h (j - i - 1) i p s hp (by rw [show i + 1 + (j - i - 1) = j by omega]; exact hs)
/-- what the search finds -/
theorem getS_search {n r : Nat} {l : List (Int × Int × Int)} {c : Int} (h : spansOk n l) (h1 : ∀ i q, i < r → l[i]? = some q → q.2.1 < c) (h2 : ∀ i q, r ≤ i → l[i]? = some q → c ≤ q.2.1) :
    (∀ s, l[r]? = some s → s.1 ≤ c → getS l c = s.2.2) ∧ ((∀ s, l[r]? = some s → ¬ s.1 ≤ c) → getS l c = 0) := by
  refine ⟨fun s hs hc => ?_, fun hn => ?_⟩
  · unfold getS
    obtain ⟨g1, g2⟩ := List.getElem?_eq_some_iff.1 hs
    rw [← List.take_append_drop r l, List.drop_eq_getElem_cons g1, g2, List.find?_append, List.find?_eq_none.2 (fun q hq => by
      obtain ⟨i, hi, e⟩ := List.getElem_of_mem hq
      rw [List.length_take] at hi
      have hq2 : l[i]? = some q := by
        have := List.getElem?_eq_getElem (l := l.take r) (i := i) (by rw [List.length_take]; exact hi)
        rw [List.getElem?_take, if_pos (by omega), e] at this
        exact this
      have := h1 i q (by omega) hq2
      simp
      omega)]
    have := h2 r s (Nat.le_refl _) hs
    simp [hc, this]
  · unfold getS
    rw [List.find?_eq_none.2 (fun q hq => by
      obtain ⟨i, hi, e⟩ := List.getElem_of_mem hq
      have hq2 : l[i]? = some q := e ▸ List.getElem?_eq_getElem hi
      by_cases hir : i < r
      · have := h1 i q hir hq2
        simp
        omega
      · have hrl : r < l.length := by omega
        have hr2 := List.getElem?_eq_getElem hrl
        have h4 := hn l[r] hr2
        by_cases he : i = r
        · subst he
          rw [hq2] at hr2
          injection hr2 with hr2
          rw [hr2]
          simp
          omega
        · have h5 := span_lt h (i := r) (j := i) (by omega) hr2 hq2
          have h6 := (h.1 l[r] (List.mem_of_getElem? hr2)).2.1
          simp
          omega)]
    rfl
end Go.UtYtkpblieanejmeaa
namespace Go.Proofs.Ytkpblieanejmeaa
open Go.RowKit Go.UtYtkpblieanejmeaa
set_option maxRecDepth 100000 in
theorem val1_any (g1 g2 : Nat) (A : Option Addr) (m c : Nat) (l : List (Int × Int × Int)) (x : Int) (k : Nat) (w : World) (hl : Row w w.heap.size A (spn l)) (hm : l.length = m) (T1 T2 : TypeId) (b1 : Blk w g1 T1 #[.slice A m c]) (b2 : Blk w g2 T2 #[.int .i64 x]) (hk : k < m) (q : Int × Int × Int) (hq : l[k]? = some q) :
    Calls Try.prog 106 #[.int .i64 (k : Int), .pointer (some ⟨g1, 0, none⟩), .pointer (some ⟨g2, 0, none⟩)] w fun e w' => e = .returned (.bool (decide (x ≤ q.2.1))) ∧ ∃ z, w' = w.drewN z := by
  obtain ⟨b, o, lo, hi, va, rfl, hb, hx, cc0, cc1, cc2⟩ := hl.at_spn (k := k) (by omega)
  obtain rfl : q = (lo, hi, va) := by
    have := hx.out
    rw [hq] at this
    injection this
  have p1 := b1.cell 0
  have p2 := b2.cell 0
  have l1 := b1.lt
  have l2 := b2.lt
  simp at p1 p2
  clear b1 b2 hq hl
  go_enter Try.func106, Try.ntmps106
  go_wp2
  go_quiet (fail)
  go_wp2
  go_ret
  exact ⟨rfl, _, rfl⟩
set_option maxRecDepth 100000 in
set_option maxHeartbeats 2000000 in
theorem search_any (g1 g2 : Nat) (A : Option Addr) (m c n : Nat) (l : List (Int × Int × Int)) (x : Int) (w : World) (hl : Row w w.heap.size A (spn l)) (hm : l.length = m) (T1 T2 : TypeId) (b1 : Blk w g1 T1 #[.slice A m c]) (b2 : Blk w g2 T2 #[.int .i64 x]) (hs : spansOk n l) (hmm : m ≤ 100000) :
    Calls Try.prog 105 #[.int .i64 (m : Int), .func (.func 106) #[] #[.pointer (some ⟨g1, 0, none⟩), .pointer (some ⟨g2, 0, none⟩)]] w fun e w' => ∃ r : Nat, r ≤ m ∧ e = .returned (.int .i64 (r : Int)) ∧ (∀ i q, i < r → l[i]? = some q → q.2.1 < x) ∧ (∀ i q, r ≤ i → l[i]? = some q → x ≤ q.2.1) ∧ ∃ z, w' = w.drewN z := by
  have HL := Lib.hid hl
  have HM := Lib.hid hm
  have HB1 := Lib.hid b1
  have HB2 := Lib.hid b2
  have HS := Lib.hid hs
  clear hl hm b1 b2 hs
  go_enter Try.func105, Try.ntmps105
  go_wp2
  go_loopw [5, 6] (fun u v wr => ∃ i j : Nat, i ≤ j ∧ j ≤ m ∧ u = .int .i64 (i : Int) ∧ v = .int .i64 (j : Int) ∧ Hid (∀ k q, k < i → l[k]? = some q → q.2.1 < x) ∧ Hid (∀ k q, j ≤ k → l[k]? = some q → x ≤ q.2.1) ∧ Hid (∃ z, wr = w.drewN z)) (fun u v _ => (intOf v).toNat - (intOf u).toNat)
  case atStart => exact ⟨0, m, by omega, by omega, rfl, rfl, fun k q h => by omega, fun k q h hq => by have := (List.getElem?_eq_some_iff.1 hq).1; rw [HM.out] at this; omega, 0, rfl⟩
  case round =>
    obtain ⟨i, j, hij, hjm, rfl, rfl, H1, H2, HZ⟩ := hrel
    obtain ⟨z, hz⟩ := HZ.out
    subst hz
    by_cases hlt : i < j
    · obtain ⟨h, hh⟩ : ∃ h, (i + j) / 2 = h := ⟨_, rfl⟩
      have hd : ((i : Int) + (j : Int)) / 2 = (h : Int) := by omega
      have h1 : i ≤ h := by omega
      have h2 : h < j := by omega
      obtain ⟨q, hq⟩ : ∃ q, l[h]? = some q := ⟨_, List.getElem?_eq_getElem (by rw [HM.out]; omega)⟩
      have HQ := Lib.hid hq
      have CV := Lib.hid (val1_any g1 g2 A m c l x h (w.drewN z) (HL.out.drewN z) HM.out T1 T2 (HB1.out.drewN z) (HB2.out.drewN z) (by omega) q hq)
      go_wp2_with fail
      try rw [hd]
      clear hd hh hq
      refine CV.out.mono ?_
      rintro e w2 ⟨rfl, z2, rfl⟩
      by_cases hx : x ≤ q.2.1
      · rw [decide_eq_true hx]
        have H2' : Hid (∀ k q, h ≤ k → l[k]? = some q → x ≤ q.2.1) := fun k q' hk hq' => by
          by_cases e : k = h
          · subst e
            rw [HQ.out] at hq'
            injection hq' with hq'
            rw [← hq']
            exact hx
          · have g1 := span_lt HS.out (i := h) (j := k) (by omega) HQ.out hq'
            have g2 := (HS.out.1 q' (List.mem_of_getElem? hq')).2.1
            omega
        go_wp2
        go_roundw
        case rel => exact ⟨i, h, h1, by omega, rfl, rfl, H1, H2', _, rfl⟩
        case measure => simp [intOf]; omega
      · rw [decide_eq_false hx]
        have H1' : Hid (∀ k q, k < h + 1 → l[k]? = some q → q.2.1 < x) := fun k q' hk hq' => by
          by_cases e : k = h
          · subst e
            rw [HQ.out] at hq'
            injection hq' with hq'
            rw [← hq']
            omega
          · have g1 := span_lt HS.out (i := k) (j := h) (by omega) hq' HQ.out
            have g2 := (HS.out.1 q (List.mem_of_getElem? HQ.out)).2.1
            omega
        go_wp2
        go_roundw
        case rel => exact ⟨h + 1, j, by omega, hjm, by go_num, rfl, H1', H2, _, rfl⟩
        case measure => simp [intOf]; omega
    · obtain rfl : i = j := by omega
      go_wp2
      go_ret
      exact ⟨i, hjm, rfl, H1.out, H2.out, _, rfl⟩
set_option maxRecDepth 100000 in
set_option maxHeartbeats 2000000 in
theorem value_any (A : Option Addr) (c n : Nat) (l : List (Int × Int × Int)) (x : Int) (w : World) (hl : Row w w.heap.size A (spn l)) (hmm : l.length ≤ 100000) (hs : spansOk n l) :
    Calls Try.prog 100 #[.slice A l.length c, .int .i64 x] w fun e w' => e = .returned (.int .i64 (getS l x)) ∧ Below w.heap.size w w' := by
  obtain ⟨m, hm⟩ : ∃ n, l.length = n := ⟨_, rfl⟩
  have HM := Lib.hid hm
  have HL := Lib.hid hl
  have HS := Lib.hid hs
  rw [hm] at hmm ⊢
  obtain ⟨w1, hw1, HB1, HK1⟩ := boxV w 23 #[.slice A m c]
  obtain ⟨w2, hw2, HB2', HK2'⟩ := boxV w1 3 #[.int .i64 x]
  have HB2 := Lib.hid (HB1.out.trans (HB2'.out.mono HB1.out.size))
  have HK2 := Lib.hid (HK1.out.after HB2'.out)
  have hs1 : w1.heap.size = w.heap.size + 1 := by rw [hw1]; simp
  obtain ⟨g, hg⟩ : ∃ g, g = w1.heap.size := ⟨_, rfl⟩
  rw [← hg] at HK2'
  have hgw : g = w.heap.size + 1 := by omega
  have p1 := HK2.out.cell 0
  have p2 := HK2'.out.cell 0
  have l1 := HK2.out.lt
  have l2 := HK2'.out.lt
  simp at p1 p2
  have hmf : ∀ (fn : Fn) (first cap : Array Value) (w : World), (Instr.makeFunc fn first cap).run Try.prog w = .ok (.func fn first cap) w := fun _ _ _ _ => rfl
  have CS := Lib.hid (search_any w.heap.size g A m c n l x w2 (hl.below HB2.out).lt hm _ _ HK2.out HK2'.out hs hmm)
  have HL2 := Lib.hid (hl.below HB2.out)
  clear hl hm hs
  go_enter Try.func100, Try.ntmps100
  go_upto_region 1 with fail
  rw [← hw1, ← hw2, ← hgw]
  clear hw1 hw2 hs1 hg hgw
  go_wp2_with fail
  refine CS.out.mono ?_
  rintro e w3 ⟨r, hr, rfl, g1, g2, z, rfl⟩
  obtain ⟨s1, s2⟩ := getS_search HS.out g1 g2
  have HS1 := Lib.hid s1
  have HS2 := Lib.hid s2
  have HB3 : Hid (Below w.heap.size w (w2.drewN z)) := below_drewN HB2.out z
  clear s1 s2 g1 g2
  by_cases hrm : r < m
  · obtain ⟨b, o, lo, hi, va, rfl, hb, hx, cc0, cc1, cc2⟩ := HL2.out.at_spn (k := r) (by rw [HM.out]; exact hrm)
    have hb2 : b < w2.heap.size := by have := HB2.out.size; omega
    have e1 : decide ((r : Int) < (m : Int)) = true := decide_eq_true (by omega)
    have e2 : (r : Int) < (m : Int) := by omega
    by_cases hc : lo ≤ x
    · have HF := Lib.hid (HS1.out _ hx.out hc)
      have d1 : decide (lo ≤ x) = true := decide_eq_true hc
      go_wp2
      go_quiet (fail)
      go_wp2
      go_ret
      exact ⟨ret_int HF.out.symm, by first | exact below_drewN HB3.out _ | exact below_drewN HB2.out _⟩
    · have HF : Hid (getS l x = 0) := HS2.out (fun s hs => by
        rw [hx.out] at hs
        injection hs with hs
        subst hs
        exact hc)
      have d1 : decide (lo ≤ x) = false := decide_eq_false hc
      go_wp2
      go_quiet (fail)
      go_wp2
      go_ret
      exact ⟨ret_int HF.out.symm, by first | exact below_drewN HB3.out _ | exact below_drewN HB2.out _⟩
  · have HF : Hid (getS l x = 0) := HS2.out (fun s hs => by
      have := (List.getElem?_eq_some_iff.1 hs).1
      rw [HM.out] at this
      omega)
    have e1 : decide ((r : Int) < (m : Int)) = false := decide_eq_false (by omega)
    have e2 : decide (r < m) = false := decide_eq_false hrm
    go_wp2
    go_quiet (fail)
    go_wp2
    go_ret
    exact ⟨ret_int HF.out.symm, by first | exact below_drewN HB3.out _ | exact below_drewN HB2.out _⟩
end Go.Proofs.Ytkpblieanejmeaa
