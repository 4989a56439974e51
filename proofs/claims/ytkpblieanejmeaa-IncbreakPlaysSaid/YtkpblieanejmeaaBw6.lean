/-
  States of the automata: breakauto.fits, Left, Right; ref29.usable, Left, Right.
-/
import Derived.Test.YtkpblieanejmeaaBw5
namespace Go.UtYtkpblieanejmeaa
open Go.RowKit
/-- one step of a sound automaton, read in memory -/
theorem aut_at {w : World} {B : Nat} {A : Option Addr} {nx mk : List (List Int)} {k a : Nat} (h : Rows2 w B A nx) (hs : soundP nx mk k a) {s c : Nat} (h1 : s < nx.length) (h2 : c < k) :
    ∃ b o b2 o2 c2, A = some ⟨b, o, none⟩ ∧ b < B ∧ w.cell? ⟨b, o + s, none⟩ = some (.slice (some ⟨b2, o2, none⟩) k c2) ∧ b2 < B ∧ w.cell? ⟨b2, o2 + c, none⟩ = some (.int .i64 (dl nx s c)) ∧ k ≤ c2 ∧ c2 ≤ maxLen := by
  obtain ⟨b, o, A2, c2, r, e, hb, hx, cc, l1, l2, hr⟩ := h.at_ (k := s) h1
  have hro := hs.2.2.1 r (List.mem_of_getElem? hx.out)
  obtain ⟨b2, o2, x, e2, hb2, hxx, ccx⟩ := hr.at_int (k := c) (by rw [hro.1]; exact h2)
  subst e2
  refine ⟨b, o, b2, o2, c2, e, hb, by rw [cc, hro.1], hb2, ?_, by rw [← hro.1]; exact l1, l2⟩
  rw [ccx]
  simp [dl, List.getD_eq_getElem?_getD, hx.out, hxx.out]
theorem lefts_len (nx : List (List Int)) (l : List Int) : (lefts nx l).length = l.length + 1 := by simp [lefts]
theorem rights_len (nx : List (List Int)) (l : List Int) : (rights nx l).length = l.length + 1 := by simp [rights]
theorem lefts_get {nx : List (List Int)} {l : List Int} {i : Nat} (h : i ≤ l.length) : (lefts nx l)[i]? = some (runA nx 0 (l.take i)) := by
  unfold lefts
  rw [List.getElem?_map, List.getElem?_range (by omega)]
  rfl
theorem rights_get {nx : List (List Int)} {l : List Int} {i : Nat} (h : i ≤ l.length) : (rights nx l)[i]? = some (runR nx (l.drop i)) := by
  unfold rights
  rw [List.getElem?_map, List.getElem?_range (by omega)]
  rfl
theorem list_ext {α : Type} {a b : List α} (hl : a.length = b.length) (h : ∀ i, i < b.length → a[i]? = b[i]?) : a = b := by
  apply List.ext_getElem?
  intro i
  by_cases hi : i < b.length
  · exact h i hi
  · rw [List.getElem?_eq_none (by omega), List.getElem?_eq_none (by omega)]
open Classical in
noncomputable def lefL (t : BT) (l : List Int) : List Int := if fitsL t l ∧ validT t then lefts t.ln l else []
open Classical in
noncomputable def rigL (t : BT) (l : List Int) : List Int := if fitsL t l ∧ validT t then rights t.rn l else []
end Go.UtYtkpblieanejmeaa
namespace Go.Proofs.Ytkpblieanejmeaa
open Go.RowKit Go.UtYtkpblieanejmeaa
theorem in_info31 : (Try.prog.info? 3).map (fun i => (i.zero, i.size, i.bytes)) = some (some (.int .i64 0), 1, 8) := by kernel_rfl
theorem wpList_make_zero {P : Program} (w : World) {ops : Array Oper} {rest : List Oper} {o : Oper} {a : Act} {Q : Exit → Act → World → Prop} (hgd : o.guard = none) (l c : Operand) (t : TypeId) (hop : o.op = Op.makeSlice t l c)
    (e : TypeId) (i : TypeInfo) (z : Value) (h1 : P.underlying t = some (.slice e)) (h2 : P.info? e = some i) (h3 : i.zero = some z) (h4 : i.size = 1) (hz : z.cells = #[z])
    (kl kc : IntKind) (L C : Int) (n : Nat) (hl : a.eval l = .int kl L) (hc : a.eval c = .int kc C) (hL : L = (n : Int)) (hC : C = (n : Int)) (b2 : i.bytes * n ≤ 281474976710656) (b3 : n ≤ maxLen)
    (hK : ∀ w' : World, Hid (Blk w' w.heap.size e (List.replicate n z).toArray) → Hid (Below w.heap.size w w') → wpList P ops Q rest (a.put o.dst (.slice (some ⟨w.heap.size, 0, none⟩) n n)) w') :
    wpList P ops Q (o :: rest) a w := by
  refine wpList_make_full w hgd l c t hop w.heap.size e i z 1 h1 h2 h3 h4 kl kc L C n hl hc hL hC b2 b3 (Nat.le_refl _) ?_
  intro w1 ho hg
  rcases ho.2 with ⟨h, _⟩ | ⟨g, cap, cur, h, _, hh, _, _, hs, ht⟩
  · simp at h
  · injection h with h1 h2 h3
    injection h1 with h1
    injection h1 with h1
    subst h1
    refine hK w1 ?_ ((Below.refl _ _).grown hg (Nat.le_refl _) (fun _ h => by cases h))
    rw [hz, Nat.mul_one, toList_madeCells_one] at ht
    have h5 : cur = (List.replicate n z).toArray := by
      apply Array.ext'
      rw [← ht, List.take_of_length_le (by simp [hs, ← h3])]
    rw [h5] at hh
    exact hh
set_option maxRecDepth 100000 in
set_option maxHeartbeats 2000000 in
open Classical in
theorem fits_any (x : TA) (t : BT) (A : Option Addr) (c : Nat) (l : List Int) (w : World) (h : TabAt w w.heap.size x t) (hsm : t.cls.length ≤ 1000 ∧ t.act.length ≤ 1000) (hl : Row w w.heap.size A (ints l)) (hll : l.length ≤ 100000) (v : Bool) (hv : v = true ↔ fitsL t l ∧ validT t) :
    Calls Try.prog 103 #[x.val t, .slice A l.length c] w fun e w' => e = .returned (.bool v) ∧ Below w.heap.size w w' := by
  have CV := Lib.hid (fun (u : World) (hu : Below w.heap.size w u) (v' : Bool) (hv' : v' = true ↔ validT t) => valid_any x t u (h.below hu).lt hsm v' hv')
  unfold TA.val at CV ⊢
  have HT := Lib.hid h
  have HV := Lib.hid hv
  have HL := Lib.hid hl
  obtain ⟨w1, hw1, HB1, HK1⟩ := boxT w 31 x t
  obtain ⟨q0, q1, q2, q3, q4, q5, ql⟩ := tab6 HK1.out
  obtain ⟨n, hn⟩ : ∃ n, l.length = n := ⟨_, rfl⟩
  obtain ⟨nc, hnc⟩ : ∃ n, t.cls.length = n := ⟨_, rfl⟩
  have HN := Lib.hid hn
  have HNC := Lib.hid hnc
  rw [hnc] at q0 hw1 CV hsm
  rw [hn] at hll
  rw [hn, hnc]
  clear h hv hl hn hnc
  go_enter Try.func103, Try.ntmps103
  go_upto_region 1 with fail
  rw [← hw1]
  clear hw1
  go_wp2
  go_loopw [9] (fun i wr => ∃ k : Nat, k ≤ n ∧ i = .int .i64 (k : Int) ∧ Hid (∀ y ∈ l.take k, 0 ≤ y ∧ y < (nc : Int)) ∧ wr = w1) (fun i _ => n - (intOf i).toNat)
  case atStart => exact ⟨0, by omega, rfl, fun r hr => by simp at hr, rfl⟩
  case round =>
    obtain ⟨k, hk, rfl, HK, hw⟩ := hrel
    subst wr
    by_cases hkn : k < n
    · obtain ⟨b, o, y, rfl, hb, hx, cc⟩ := (HL.out.below HB1.out).at_int (k := k) (by rw [HN.out]; exact hkn)
      by_cases g1 : y < 0
      · have HF : Hid (v = false) := bool_neg HV.out (fun h => by have := h.1 y (List.mem_of_getElem? hx.out); omega)
        go_wp2
        go_ret
        exact ⟨ret_bool HF.out.symm, HB1.out⟩
      · have d1 : decide (y < 0) = false := decide_eq_false g1
        by_cases g2 : (nc : Int) ≤ y
        · have HF : Hid (v = false) := bool_neg HV.out (fun h => by have := h.1 y (List.mem_of_getElem? hx.out); rw [HNC.out] at this; omega)
          go_wp2
          go_ret
          exact ⟨ret_bool HF.out.symm, HB1.out⟩
        · have HK' := Lib.hid (all_snoc (P := fun y : Int => 0 ≤ y ∧ y < (nc : Int)) HK.out hx.out ⟨by omega, by omega⟩)
          go_wp2
          go_roundw
          case rel => exact ⟨k + 1, by omega, by go_num, HK', by trivial⟩
          case measure => simp [intOf]; omega
    · have HA : Hid (fitsL t l) := fun y hy => by rw [HNC.out]; exact all_take HK.out (by rw [HN.out]; omega) y hy
      have HF : Hid (v = true ↔ validT t) := ⟨fun h => (HV.out.1 h).2, fun h => HV.out.2 ⟨HA.out, h⟩⟩
      go_wp2_with fail
      refine (CV.out w1 HB1.out v HF.out).mono ?_
      rintro e w2 ⟨rfl, hb2⟩
      have HB2 := Lib.hid (HB1.out.trans (hb2.mono HB1.out.size))
      clear hb2
      go_wp2
      go_ret
      exact ⟨rfl, HB2.out⟩
set_option maxRecDepth 100000 in
set_option maxHeartbeats 2000000 in
open Classical in
theorem usable_any (x : TA) (t : BT) (A : Option Addr) (c : Nat) (l : List Int) (w : World) (h : TabAt w w.heap.size x t) (hsm : t.cls.length ≤ 1000 ∧ t.act.length ≤ 1000) (hl : Row w w.heap.size A (ints l)) (hll : l.length ≤ 100000) (v : Bool) (hv : v = true ↔ fitsL t l ∧ validT t) :
    Calls Try.prog 83 #[x.val t, .slice A l.length c] w fun e w' => e = .returned (.bool v) ∧ Below w.heap.size w w' := by
  have CV := Lib.hid (fun (u : World) (hu : Below w.heap.size w u) (v' : Bool) (hv' : v' = true ↔ validT t) => valid29_any x t u (h.below hu).lt hsm v' hv')
  unfold TA.val at CV ⊢
  have HT := Lib.hid h
  have HV := Lib.hid hv
  have HL := Lib.hid hl
  obtain ⟨w1, hw1, HB1, HK1⟩ := boxT w 31 x t
  obtain ⟨q0, q1, q2, q3, q4, q5, ql⟩ := tab6 HK1.out
  obtain ⟨n, hn⟩ : ∃ n, l.length = n := ⟨_, rfl⟩
  obtain ⟨nc, hnc⟩ : ∃ n, t.cls.length = n := ⟨_, rfl⟩
  have HN := Lib.hid hn
  have HNC := Lib.hid hnc
  rw [hnc] at q0 hw1 CV hsm
  rw [hn] at hll
  rw [hn, hnc]
  clear h hv hl hn hnc
  go_enter Try.func83, Try.ntmps83
  go_upto_region 1 with fail
  rw [← hw1]
  clear hw1
  go_wp2
  go_loopw [5] (fun i wr => ∃ k : Nat, k ≤ n ∧ i = .int .i64 (k : Int) ∧ Hid (∀ y ∈ l.take k, 0 ≤ y ∧ y < (nc : Int)) ∧ Hid (∃ z, wr = w1.drewN z)) (fun i _ => n - (intOf i).toNat)
  case atStart => exact ⟨0, by omega, rfl, fun r hr => by simp at hr, 0, rfl⟩
  case round =>
    obtain ⟨k, hk, rfl, HK, HZ⟩ := hrel
    obtain ⟨z, hz⟩ := HZ.out
    subst hz
    have HBz := Lib.hid (below_drewN HB1.out z)
    by_cases hkn : k < n
    · obtain ⟨b, o, y, rfl, hb, hx, cc⟩ := (HL.out.below HB1.out).at_int (k := k) (by rw [HN.out]; exact hkn)
      have hbl : b < w1.heap.size := by have := HB1.out.size; omega
      by_cases g1 : y < 0
      · have HF : Hid (v = false) := bool_neg HV.out (fun h => by have := h.1 y (List.mem_of_getElem? hx.out); omega)
        have d1 : decide (y < 0) = true := decide_eq_true g1
        go_wp2
        go_quiet (fail)
        go_wp2
        go_ret
        exact ⟨ret_bool HF.out.symm, below_drewN HBz.out _⟩
      · have d1 : decide (y < 0) = false := decide_eq_false g1
        by_cases g2 : (nc : Int) ≤ y
        · have HF : Hid (v = false) := bool_neg HV.out (fun h => by have := h.1 y (List.mem_of_getElem? hx.out); rw [HNC.out] at this; omega)
          have d2 : decide ((nc : Int) ≤ y) = true := decide_eq_true g2
          go_wp2
          go_quiet (fail)
          go_wp2
          go_ret
          exact ⟨ret_bool HF.out.symm, below_drewN HBz.out _⟩
        · have HK' := Lib.hid (all_snoc (P := fun y : Int => 0 ≤ y ∧ y < (nc : Int)) HK.out hx.out ⟨by omega, by omega⟩)
          have d2 : decide ((nc : Int) ≤ y) = false := decide_eq_false g2
          go_wp2
          go_quiet (fail)
          go_wp2
          go_roundw
          case rel => exact ⟨k + 1, by omega, by go_num, HK', _, rfl⟩
          case measure => simp [intOf]; omega
    · have HA : Hid (fitsL t l) := fun y hy => by rw [HNC.out]; exact all_take HK.out (by rw [HN.out]; omega) y hy
      have HF : Hid (v = true ↔ validT t) := ⟨fun h => (HV.out.1 h).2, fun h => HV.out.2 ⟨HA.out, h⟩⟩
      go_wp2_with fail
      refine (CV.out _ HBz.out v HF.out).mono ?_
      rintro e w2 ⟨rfl, hb2⟩
      have HB2 := Lib.hid (HBz.out.trans (hb2.mono HBz.out.size))
      clear hb2
      go_wp2
      go_ret
      exact ⟨rfl, HB2.out⟩
/-- a row in a block of its own, set at one place -/
theorem ints_set (xs : List Int) (k : Nat) (y : Int) : (ints xs).toArray.setIfInBounds k (.int .i64 y) = (ints (xs.set k y)).toArray := by
  simp [ints]
theorem rep_ints (n : Nat) : List.replicate n (Value.int .i64 0) = ints (List.replicate n 0) := by simp [ints]
set_option maxRecDepth 100000 in
set_option maxHeartbeats 4000000 in
theorem left_any (x : TA) (t : BT) (A : Option Addr) (c : Nat) (l : List Int) (w : World) (h : TabAt w w.heap.size x t) (hsm : t.cls.length ≤ 1000 ∧ t.act.length ≤ 1000) (hl : Row w w.heap.size A (ints l)) (hll : l.length ≤ 100000) :
    Calls Try.prog 97 #[x.val t, .slice A l.length c] w (RetI w (lefL t l)) := by
  have CV := Lib.hid (fun (u : World) (hu : Below w.heap.size w u) (v' : Bool) (hv' : v' = true ↔ fitsL t l ∧ validT t) => fits_any x t A c l u (h.below hu).lt hsm (hl.below hu).lt hll v' hv')
  unfold TA.val at CV ⊢
  have HT := Lib.hid h
  have HL := Lib.hid hl
  obtain ⟨w1, hw1, HB1, HK1⟩ := boxT w 31 x t
  obtain ⟨q0, q1, q2, q3, q4, q5, ql⟩ := tab6 HK1.out
  obtain ⟨n, hn⟩ : ∃ n, l.length = n := ⟨_, rfl⟩
  obtain ⟨nc, hnc⟩ : ∃ n, t.cls.length = n := ⟨_, rfl⟩
  obtain ⟨ns, hns⟩ : ∃ n, t.ln.length = n := ⟨_, rfl⟩
  have HN := Lib.hid hn
  have HNC := Lib.hid hnc
  have HNS := Lib.hid hns
  rw [hn] at hll CV
  rw [hn]
  clear h hl hn hnc hns
  obtain ⟨i0, hi0, hz0, hz1, hz2⟩ := info_parts in_info31
  by_cases hP : fitsL t l ∧ validT t
  case neg =>
    have HX : Hid (lefL t l = []) := by
      show _ = _
      unfold lefL
      rw [if_neg hP]
    go_enter Try.func97, Try.ntmps97
    go_upto_region 1 with fail
    rw [← hw1]
    clear hw1
    go_wp2_with fail
    refine (CV.out w1 HB1.out false ⟨fun h => (by cases h), fun h => absurd h hP⟩).mono ?_
    rintro e w2 ⟨rfl, hb2⟩
    have HB2 := Lib.hid (HB1.out.trans (hb2.mono HB1.out.size))
    clear hb2
    go_wp2
    go_ret
    rw [HX.out]
    exact ⟨none, 0, rfl, by simp, by simp [maxLen], Row.nil, HB2.out⟩
  case pos =>
    have HX : Hid (lefL t l = lefts t.ln l) := by
      show _ = _
      unfold lefL
      rw [if_pos hP]
    have HP := Lib.hid hP
    have HSO := Lib.hid hP.2.2.2.2.1
    clear hP
    go_enter Try.func97, Try.ntmps97
    go_upto_region 1 with fail
    rw [← hw1]
    clear hw1
    go_wp2_with fail
    refine (CV.out w1 HB1.out true ⟨fun _ => HP.out, fun _ => rfl⟩).mono ?_
    rintro e w2 ⟨rfl, hb2⟩
    have HB2 := Lib.hid (HB1.out.trans (hb2.mono HB1.out.size))
    have HK2 := Lib.hid (HK1.out.after hb2)
    clear hb2 q0 q1 q2 q3 q4 q5 ql
    go_upto_region 4 with (first
      | (at_make
         refine wpList_make_zero _ rfl _ _ 26 rfl 3 i0 _ Try.underlying26 hi0 hz0 hz1 rfl _ _ _ _ (n + 1) rfl rfl (by omega) (by omega) (by rw [hz2]; omega) (by simp only [maxLen]; omega) ?_
         intro w3 hk3 hb3))
    rw [rep_ints] at hk3
    have HB3 := Lib.hid (HB2.out.trans (hb3.out.mono HB2.out.size))
    have HK3 := Lib.hid (HK2.out.after hb3.out)
    obtain ⟨g, hg⟩ : ∃ g, g = w2.heap.size := ⟨_, rfl⟩
    rw [← hg] at hk3 ⊢
    have HGG : Hid (w.heap.size < g) := by
      show _ < _
      have := HK2.out.lt
      omega
    have hs2 := HB2.out.size
    have hgw : w.heap.size ≤ g := by omega
    have HST0 : Hid (∀ j, j ≤ 0 → (List.replicate (n + 1) (0 : Int))[j]? = some (runA t.ln 0 (l.take j))) := fun j hj => by
      obtain rfl : j = 0 := by omega
      simp [runA]
    clear hb3 hg
    obtain ⟨N, hN⟩ : ∃ N, n + 1 = N := ⟨_, rfl⟩
    have HNN := Lib.hid hN
    have hnN : n < N := by omega
    have hN2 : N ≤ 100001 := by omega
    rw [hN] at hk3 HST0 ⊢
    clear hN
    go_wp2
    go_loopw [18] (fun i wr => ∃ (k : Nat) (arr : List Int), k ≤ n ∧ i = .int .i64 (k : Int) ∧ Hid (arr.length = N) ∧ Hid (∀ j, j ≤ k → arr[j]? = some (runA t.ln 0 (l.take j))) ∧ Hid (Blk wr g 3 (ints arr).toArray) ∧ Hid (Blk wr w.heap.size 31 (x.cs t)) ∧ Hid (Below w.heap.size w wr)) (fun i _ => n - (intOf i).toNat)
    case atStart => exact ⟨0, List.replicate N 0, by omega, rfl, List.length_replicate, HST0, hk3, HK3, HB3⟩
    case round =>
      obtain ⟨k, arr, hk, rfl, HAL, HAR, HBL, HK, HB⟩ := hrel
      obtain ⟨q0, q1, q2, q3, q4, q5, ql⟩ := tab6 HK.out
      by_cases hkn : k < n
      · obtain ⟨b, o, y, rfl, hb, hx, cc⟩ := (HL.out.below HB.out).at_int (k := k) (by rw [HN.out]; exact hkn)
        have hyf := HP.out.1 y (List.mem_of_getElem? hx.out)
        rw [HNC.out] at hyf
        obtain ⟨yn, rfl⟩ : ∃ yn : Nat, y = (yn : Int) := ⟨y.toNat, by omega⟩
        have hst := runA_fit HSO.out (l.take k) 0 ⟨by omega, by have := HSO.out.1.1; omega⟩ (fun c hc => HP.out.1 c (List.mem_of_mem_take hc))
        obtain ⟨s, hs⟩ : ∃ s, runA t.ln 0 (l.take k) = s := ⟨_, rfl⟩
        have HRS := Lib.hid hs
        rw [hs, HNS.out] at hst
        obtain ⟨sn, rfl⟩ : ∃ sn : Nat, s = (sn : Int) := ⟨s.toNat, by omega⟩
        obtain ⟨bn, on, b2, o2, c2, hA, hbn, cc1, hb2, cc2, l1, l2⟩ := aut_at (HT.out.2.2.1.1.1.below HB.out) HSO.out (s := sn) (c := yn) (by rw [HNS.out]; omega) (by rw [HNC.out]; omega)
        rw [HNC.out] at cc1 l1
        rw [hA, HNS.out] at q2
        obtain ⟨d, hd⟩ : ∃ d, dl t.ln (sn : Int) (yn : Int) = d := ⟨_, rfl⟩
        have HDL := Lib.hid hd
        rw [hd] at cc2
        have HNX : Hid (runA t.ln 0 (l.take (k + 1)) = d) := by
          show _ = _
          obtain ⟨h1, h2⟩ := List.getElem?_eq_some_iff.1 hx.out
          rw [List.take_succ_eq_append_getElem h1, h2, runA_snoc, HRS.out, HDL.out]
        have ccg : wr.cell? ⟨g, k, none⟩ = some (.int .i64 (sn : Int)) := by
          rw [HBL.out.cell k]
          have := HAR.out k (Nat.le_refl _)
          rw [HRS.out] at this
          simp [ints, this]
        obtain ⟨od, cck⟩ : ∃ od, wr.cell? ⟨g, k + 1, none⟩ = some (.int .i64 od) := by
          rw [HBL.out.cell (k + 1)]
          refine ⟨arr[k + 1]'(by rw [HAL.out]; omega), ?_⟩
          simp [ints]
        have HXA := Lib.hid hA
        clear hA
        have hbs := HB.out.size
        have hgl := HBL.out.lt
        have hfr := HBL.out.free (k + 1)
        have k1 : sn < ns := by omega
        have k2 : yn < nc := by omega
        have e1 : k < N := by omega
        have e2 : (k : Int) + 1 < (N : Int) := by omega
        have e4 : (0 : Int) ≤ (k : Int) + 1 := by omega
        have e5 : ((k : Int) + 1).toNat = k + 1 := by omega
        have e3 : IntKind.i64.wrap ((k : Int) + 1) = ((k + 1 : Nat) : Int) := by
          rw [IntWalk.i64_in _ (by omega)]
          omega
        clear hs hd
        go_wp2
        refine wp_region_tree (fun w' => (w'.cell? ⟨w.heap.size, 2, none⟩ = some (.slice (some ⟨bn, on, none⟩) ns x.cln) ∧ w.heap.size < w'.heap.size) ∧ w'.cell? ⟨g, k, none⟩ = some (.int .i64 (sn : Int)) ∧ w'.cell? ⟨bn, on + sn, none⟩ = some (.slice (some ⟨b2, o2, none⟩) nc c2) ∧ w'.cell? ⟨b2, o2 + yn, none⟩ = some (.int .i64 d)) (.float 0 (.float 1 (.float 2 (.float 3 (.float 4 (.float 5 (.float 6 (.float 7 (.float 8 (.float 9 (.float 10 (.float 11 (.float 12 (.float 13 (.float 14 (.float 15 (.one 16 .done))))))))))))))))) (by kernel_rfl) (by kernel_rfl) (fun _ _ d _ _ h => by cases d <;> exact h) ⟨⟨q2, ql⟩, ccg, cc1, cc2⟩ ?_
        repeat (first
          | (refine wpTr_fskip (by simp only [List.getElem?_toArray, List.getElem?_cons_zero, List.getElem?_cons_succ]; rfl) (by rfl) ?_
             simp only [Act.put, List.setIfInBounds_toArray, List.set_cons_zero, List.set_cons_succ])
          | (refine wpTr_float (v := ?_) (by simp only [List.getElem?_toArray, List.getElem?_cons_zero, List.getElem?_cons_succ]; rfl) (by rfl) (fun w' hS => ?_) ?_
             rotate_left
             ((obtain ⟨⟨e0', e1'⟩, e2', e3', e4'⟩ := hS); go_simp; first | done | rfl)
             simp only [Act.put, List.setIfInBounds_toArray, List.set_cons_zero, List.set_cons_succ]))
        refine wpTr_one ?_
        refine stepTr_K (by simp only [List.getElem?_toArray, List.getElem?_cons_zero, List.getElem?_cons_succ]; rfl) (by rfl) (fun K hK => ?_)
        go_simp
        have HW : Hid (Blk (wr.setCell ⟨g, k + 1, none⟩ (.int .i64 d)).drew g 3 (ints (arr.set (k + 1) d)).toArray) := by
          have := HBL.out.set_ (k + 1) (.int .i64 d)
          rw [ints_set] at this
          exact this.drew
        obtain ⟨w5, hw5, HB5, HK5⟩ : ∃ u, u = (wr.setCell ⟨g, k + 1, none⟩ (.int .i64 d)).drew ∧ Hid (Below w.heap.size wr u) ∧ Hid (Blk u w.heap.size 31 (x.cs t)) := ⟨_, rfl, ((Below.refl _ _).setCell (p := ⟨g, k + 1, none⟩) hgw _).drew, (HK.out.far (p := ⟨g, k + 1, none⟩) (by have := HGG.out; show _ ≠ g; omega) _).drew⟩
        rw [← hw5] at HW ⊢
        clear hw5
        have HAR' : Hid (∀ j, j ≤ k + 1 → (arr.set (k + 1) d)[j]? = some (runA t.ln 0 (l.take j))) := fun j hj => by
          by_cases hjk : j = k + 1
          · subst hjk
            rw [List.getElem?_set_self (by rw [HAL.out]; omega), HNX.out]
          · rw [List.getElem?_set_ne (by omega)]
            exact HAR.out j (by omega)
        have ccg5 : w5.cell? ⟨g, k, none⟩ = some (.int .i64 (sn : Int)) := by
          rw [HW.out.cell k]
          have := HAR.out k (Nat.le_refl _)
          rw [HRS.out] at this
          simp [ints, this]
        have HB5' := Lib.hid (HB.out.trans HB5.out)
        obtain ⟨p0, p1, p2, p3, p4, p5, pl⟩ := tab6 HK5.out
        rw [HXA.out, HNS.out] at p2
        refine hK.out _ _ ⟨⟨p2, pl⟩, ccg5, (HB5.out.cell (p := ⟨bn, on + sn, none⟩) hbn).trans cc1, (HB5.out.cell (p := ⟨b2, o2 + yn, none⟩) hb2).trans cc2⟩ ?_
        clear hK K
        try simp only [Act.put, List.setIfInBounds_toArray, List.set_cons_zero, List.set_cons_succ]
        refine wpTr_done ?_
        go_wp2
        go_roundw
        case rel => exact ⟨k + 1, arr.set (k + 1) d, by omega, by go_num, by show _ = _; rw [List.length_set]; exact HAL.out, HAR', HW, HK5, HB5'⟩
        case measure => simp [intOf]; omega
      · have HE : Hid (arr = lefts t.ln l) := list_ext (by rw [HAL.out, lefts_len, HN.out]; exact HNN.out.symm) (fun j hj => by
          rw [lefts_len, HN.out] at hj
          rw [lefts_get (by rw [HN.out]; omega)]
          exact HAR.out j (by omega))
        go_wp2
        go_ret
        rw [HX.out]
        have HRW : Row wr wr.heap.size (some ⟨g, 0, none⟩) (ints (lefts t.ln l)) := HBL.out.row (by rw [HE.out])
        exact ⟨some ⟨g, 0, none⟩, N, by rw [lefts_len, HN.out, HNN.out]; rfl, by rw [lefts_len, HN.out, HNN.out]; exact Nat.le_refl _, by simp only [maxLen]; omega, HRW, HB.out⟩
end Go.Proofs.Ytkpblieanejmeaa
