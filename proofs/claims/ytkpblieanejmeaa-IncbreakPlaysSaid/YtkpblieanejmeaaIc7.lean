/-
  slices.BinarySearch of ints.
  (*incbreak.Document).Text, Boundaries, Next, Previous (printed by ic6.py).
-/
import Derived.Test.YtkpblieanejmeaaCmp
import Derived.Test.YtkpblieanejmeaaId1
import Derived.Test.YtkpblieanejmeaaIb2
namespace Go.Proofs.Ytkpblieanejmeaa
open Go.RowKit Go.UtYtkpblieanejmeaa
theorem snan_any (x : Int) (w : World) : Calls Try.prog 70 #[.int .i64 x] w fun e w' => e = .returned (.bool false) ∧ w = w' := by
  go_enter Try.func70, Try.ntmps70
  go_wp2
  go_ret
  exact ⟨ret_bool (by simp), rfl⟩
theorem less_any (x y : Int) (w : World) (v : Bool) (hv : decide (x < y) = v) : Calls Try.prog 69 #[.int .i64 x, .int .i64 y] w fun e w' => e = .returned (.bool v) ∧ w = w' := by
  have HV := Lib.hid hv
  clear hv
  go_enter Try.func69, Try.ntmps69
  go_wp2_with (first | (go_at_call 82; refine (nan_any _ _).mono ?_; rintro e w' ⟨rfl, rfl⟩))
  go_ret
  exact ⟨ret_bool (by simpa using HV.out), rfl⟩
def RetBs (b : List Int) (a : Int) (w : World) (e : Ending) (w' : World) : Prop := ∃ (i : Nat) (f : Bool), e = .returned (.tuple #[.int .i64 (i : Int), .bool f]) ∧ i ≤ b.length ∧ (∀ (k : Nat) (z : Int), k < i → b[k]? = some z → z < a) ∧ (∀ (k : Nat) (z : Int), i ≤ k → b[k]? = some z → a ≤ z) ∧ (f = true ↔ b[i]? = some a) ∧ w' = w
set_option maxRecDepth 100000 in
set_option maxHeartbeats 2000000 in
theorem bs_any (A : Option Addr) (m c : Nat) (l : List Int) (x : Int) (w : World) (hl : Row w w.heap.size A (ints l)) (hm : l.length = m) (hm2 : m ≤ 1000000) (hs : List.Pairwise (· < ·) l) :
    Calls Try.prog 49 #[.slice A m c, .int .i64 x] w (RetBs l x w) := by
  have HL := Lib.hid hl
  have HM := Lib.hid hm
  have HS := Lib.hid (fun (j k : Nat) (y z : Int) (hj : l[j]? = some y) (hk : l[k]? = some z) (h : j < k) => (by
    obtain ⟨h1, e1⟩ := List.getElem?_eq_some_iff.1 hj
    obtain ⟨h2, e2⟩ := List.getElem?_eq_some_iff.1 hk
    have := List.pairwise_iff_getElem.1 hs j k h1 h2 h
    rw [e1, e2] at this
    exact this : y < z))
  clear hl hm hs
  go_enter Try.func49, Try.ntmps49
  go_wp2
  go_loopw [7, 8] (fun u v wr => ∃ i j : Nat, i ≤ j ∧ j ≤ m ∧ u = .int .i64 (i : Int) ∧ v = .int .i64 (j : Int) ∧ Hid (∀ k q, k < i → l[k]? = some q → q < x) ∧ Hid (∀ k q, j ≤ k → l[k]? = some q → x ≤ q) ∧ wr = w) (fun u v _ => (intOf v).toNat - (intOf u).toNat)
  case atStart => exact ⟨0, m, by omega, by omega, rfl, rfl, fun k q h => by omega, fun k q h hq => by have := (List.getElem?_eq_some_iff.1 hq).1; rw [HM.out] at this; omega, rfl⟩
  case round =>
    obtain ⟨i, j, hij, hjm, rfl, rfl, H1, H2, hw⟩ := hrel
    subst wr
    by_cases hlt : i < j
    · obtain ⟨h, hh⟩ : ∃ h, (i + j) / 2 = h := ⟨_, rfl⟩
      have hd : ((i : Int) + (j : Int)) / 2 = (h : Int) := by omega
      have h1 : i ≤ h := by omega
      have h2 : h < j := by omega
      obtain ⟨b, o, q, hA, hb, hq, cq⟩ := HL.out.at_int (k := h) (by rw [HM.out]; omega)
      subst hA
      have HQ := Lib.hid hq.out
      by_cases hx : q < x
      · have CV := Lib.hid (less_any q x w true (decide_eq_true hx))
        have H1' : Hid (∀ k q, k < h + 1 → l[k]? = some q → q < x) := fun k q' hk hq' => by
          by_cases e : k = h
          · subst e
            rw [HQ.out] at hq'
            injection hq' with hq'
            rw [← hq']
            exact hx
          · have := HS.out k h q' q hq' HQ.out (by omega)
            omega
        go_wp2_with fail
        try rw [hd]
        clear hd hh
        refine CV.out.mono ?_
        rintro e w2 ⟨rfl, rfl⟩
        go_wp2
        go_roundw
        case rel => exact ⟨h + 1, j, by omega, hjm, by go_num, rfl, H1', H2, trivial⟩
        case measure => simp [intOf]; omega
      · have CV := Lib.hid (less_any q x w false (decide_eq_false hx))
        have H2' : Hid (∀ k q, h ≤ k → l[k]? = some q → x ≤ q) := fun k q' hk hq' => by
          by_cases e : k = h
          · subst e
            rw [HQ.out] at hq'
            injection hq' with hq'
            rw [← hq']
            omega
          · have := HS.out h k q q' HQ.out hq' (by omega)
            omega
        go_wp2_with fail
        try rw [hd]
        clear hd hh
        refine CV.out.mono ?_
        rintro e w2 ⟨rfl, rfl⟩
        go_wp2
        go_roundw
        case rel => exact ⟨i, h, h1, by omega, rfl, rfl, H1, H2', trivial⟩
        case measure => simp [intOf]; omega
    · obtain rfl : i = j := by omega
      by_cases him : i < m
      · obtain ⟨b, o, q, hA, hb, hq, cq⟩ := HL.out.at_int (k := i) (by rw [HM.out]; exact him)
        subst hA
        have HQ := Lib.hid hq.out
        have CN := fun (u : World) (z : Int) => snan_any z u
        by_cases hqx : q = x
        · have dq : decide (q = x) = true := decide_eq_true hqx
          have HQX := Lib.hid hqx
          clear hqx
          go_wp2_with (first | (go_at_call 70; refine (snan_any _ _).mono ?_; rintro e w' ⟨rfl, rfl⟩))
          go_ret2
          exact ⟨i, true, rfl, by rw [HM.out]; omega, H1.out, H2.out, ⟨fun _ => by rw [HQ.out, HQX.out], fun _ => rfl⟩, rfl⟩
        · have dq : decide (q = x) = false := decide_eq_false hqx
          have bq : (q == x) = false := by simpa using hqx
          have HQX := Lib.hid hqx
          go_wp2_with (first | (go_at_call 70; refine (snan_any _ _).mono ?_; rintro e w' ⟨rfl, rfl⟩))
          go_ret2
          exact ⟨i, false, rfl, by rw [HM.out]; omega, H1.out, H2.out, ⟨fun h => (by cases h), fun h => by rw [HQ.out] at h; exact absurd (Option.some.inj h) HQX.out⟩, rfl⟩
      · go_wp2
        go_ret2
        exact ⟨i, false, rfl, by rw [HM.out]; omega, H1.out, H2.out, ⟨fun h => (by cases h), fun h => by have := (List.getElem?_eq_some_iff.1 h).1; rw [HM.out] at this; omega⟩, rfl⟩
end Go.Proofs.Ytkpblieanejmeaa
namespace Go.Proofs.Ytkpblieanejmeaa
open Go.RowKit Go.UtYtkpblieanejmeaa
set_option maxRecDepth 100000 in
set_option maxHeartbeats 2000000 in
theorem docT_raw (D T : Nat) (cs : Array Value) (A : Option Addr) (n c : Nat) (xs : List Int) (w : World) (hD : Blk w D T cs) (hc : cs[9]? = some (.slice A n c)) (hR : Row w w.heap.size A (ints xs)) (hn : xs.length = n) (hl : n ≤ 1000000) :
    Calls Try.prog 18 #[.pointer (some ⟨D, 0, none⟩)] w (RetInts w xs) := by
  obtain ⟨i0, hi0, hz0, hz1, hz2⟩ := info_parts int_info
  have e9 := (hD.cell 9).trans hc
  have el := hD.lt
  have HR := Lib.hid hR
  have HN := Lib.hid hn
  have hk : w.heap.size ≤ w.heap.size := Nat.le_refl _
  clear hD hc hR hn
  go_enter Try.func18, Try.ntmps18
  go_wp2_with (first
    | (at_make
       refine wpList_make_block _ rfl _ _ 26 rfl 3 i0 _ Try.underlying26 hi0 hz0 hz1 _ _ _ _ n rfl rfl (by omega) (by omega) (by rw [hz2]; omega) (by simp only [maxLen]; omega) ?_
       intro w1 z hzl hz hlt1 hb1
       have HZ := Lib.hid hzl
       have e91 := (hb1.out.cell (p := ⟨D, 9, none⟩) el).trans e9
       have el1 : D < w1.heap.size := by have := hb1.out.size; omega
       clear hzl))
  obtain ⟨w2, hrun, hg2, hb2⟩ := run_copy_into (P := Try.prog) (w := w1) 26 3 3 Try.underlying26 int_size w.heap.size 0 (some ⟨w.heap.size, 0, none⟩) n n (fun _ => rfl)
    w.heap.size A n c (ints xs) (by rw [ints_len, HN.out]) (HR.out.below hb1.out) (Nat.le_refl _) z hz.out (by rw [HZ.out]; omega) (ints_one _) w.heap.size w hb1.out hk
  have e3 : splice z 0 (ints xs) = ints xs := by
    simp [splice, ints_len]
    have := HZ.out
    have := HN.out
    omega
  rw [e3] at hg2
  rw [hrun]
  clear hrun hb1 hz hlt1 e3 e91 el1 e9 el
  go_wp2_with fail
  go_ret
  refine ⟨some ⟨w.heap.size, 0, none⟩, n, by rw [HN.out]; rfl, by rw [HN.out]; exact Nat.le_refl _, by simp only [maxLen]; omega, ?_, NewAt.at_ (Nat.le_refl _), hb2.out⟩
  exact Row.of_block (o := 0) hg2.out (fun k v hk => by simpa using hk)
theorem docT_nil (w : World) : Calls Try.prog 18 #[.pointer none] w fun e w' => e = .returned (.slice none 0 0) ∧ w' = w := by
  go_enter Try.func18, Try.ntmps18
  go_wp2
  go_ret
  exact ⟨rfl, rfl⟩
theorem docT_any (B D : Nat) (uv : Value) (p : PR) (t : BT) (X : List Int) (U : List EdN) (w : World) (h : DocAt w B D uv p t X U) (hl : X.length ≤ 10000) :
    Calls Try.prog 18 #[.pointer (some ⟨D, 0, none⟩)] w (RetInts w X) := by
  obtain ⟨x, y, At, cX, Ac, cC, vs, hD, h2, h3, h5, h6, h7, h8⟩ := h
  exact docT_raw D _ _ _ _ _ _ w hD rfl h7.1.of_era rfl (by omega)
set_option maxRecDepth 100000 in
set_option maxHeartbeats 2000000 in
theorem docB_raw (D T : Nat) (cs : Array Value) (A : Option Addr) (n c : Nat) (xs : List Int) (w : World) (hD : Blk w D T cs) (hc : cs[10]? = some (.slice A n c)) (hR : Row w w.heap.size A (ints xs)) (hn : xs.length = n) (hl : n ≤ 1000000) :
    Calls Try.prog 19 #[.pointer (some ⟨D, 0, none⟩)] w (RetInts w xs) := by
  obtain ⟨i0, hi0, hz0, hz1, hz2⟩ := info_parts int_info
  have e9 := (hD.cell 10).trans hc
  have el := hD.lt
  have HR := Lib.hid hR
  have HN := Lib.hid hn
  have hk : w.heap.size ≤ w.heap.size := Nat.le_refl _
  clear hD hc hR hn
  go_enter Try.func19, Try.ntmps19
  go_wp2_with (first
    | (at_make
       refine wpList_make_block _ rfl _ _ 26 rfl 3 i0 _ Try.underlying26 hi0 hz0 hz1 _ _ _ _ n rfl rfl (by omega) (by omega) (by rw [hz2]; omega) (by simp only [maxLen]; omega) ?_
       intro w1 z hzl hz hlt1 hb1
       have HZ := Lib.hid hzl
       have e91 := (hb1.out.cell (p := ⟨D, 10, none⟩) el).trans e9
       have el1 : D < w1.heap.size := by have := hb1.out.size; omega
       clear hzl))
  obtain ⟨w2, hrun, hg2, hb2⟩ := run_copy_into (P := Try.prog) (w := w1) 26 3 3 Try.underlying26 int_size w.heap.size 0 (some ⟨w.heap.size, 0, none⟩) n n (fun _ => rfl)
    w.heap.size A n c (ints xs) (by rw [ints_len, HN.out]) (HR.out.below hb1.out) (Nat.le_refl _) z hz.out (by rw [HZ.out]; omega) (ints_one _) w.heap.size w hb1.out hk
  have e3 : splice z 0 (ints xs) = ints xs := by
    simp [splice, ints_len]
    have := HZ.out
    have := HN.out
    omega
  rw [e3] at hg2
  rw [hrun]
  clear hrun hb1 hz hlt1 e3 e91 el1 e9 el
  go_wp2_with fail
  go_ret
  refine ⟨some ⟨w.heap.size, 0, none⟩, n, by rw [HN.out]; rfl, by rw [HN.out]; exact Nat.le_refl _, by simp only [maxLen]; omega, ?_, NewAt.at_ (Nat.le_refl _), hb2.out⟩
  exact Row.of_block (o := 0) hg2.out (fun k v hk => by simpa using hk)
theorem docB_nil (w : World) : Calls Try.prog 19 #[.pointer none] w fun e w' => e = .returned (.slice none 0 0) ∧ w' = w := by
  go_enter Try.func19, Try.ntmps19
  go_wp2
  go_ret
  exact ⟨rfl, rfl⟩
theorem docB_any (B D : Nat) (uv : Value) (p : PR) (t : BT) (X : List Int) (U : List EdN) (w : World) (h : DocAt w B D uv p t X U) (hl : X.length ≤ 10000) :
    Calls Try.prog 19 #[.pointer (some ⟨D, 0, none⟩)] w (RetInts w (bndL p t X)) := by
  obtain ⟨x, y, At, cX, Ac, cC, vs, hD, h2, h3, h5, h6, h7, h8⟩ := h
  exact docB_raw D _ _ _ _ _ _ w hD rfl h8.1.of_era rfl (by have := bnd_len p t X; omega)
set_option maxRecDepth 100000 in
set_option maxHeartbeats 2000000 in
theorem docN_raw (D T : Nat) (cs : Array Value) (A : Option Addr) (n c : Nat) (b : List Int) (a : Int) (w : World) (hD : Blk w D T cs) (hc : cs[10]? = some (.slice A n c)) (hR : Row w w.heap.size A (ints b)) (hn : b.length = n) (hl : n ≤ 1000000) (hs : List.Pairwise (· < ·) b) :
    Calls Try.prog 21 #[.pointer (some ⟨D, 0, none⟩), .int .i64 a] w fun e w' => e = .returned (.int .i64 (nextL b a)) ∧ w' = w := by
  have CB := Lib.hid (bs_any A n c b a w hR hn hl hs)
  unfold RetBs at CB
  have e10 := (hD.cell 10).trans hc
  have el := hD.lt
  have HR := Lib.hid hR
  have HN := Lib.hid hn
  have HS := Lib.hid hs
  clear hD hc hR hn hs
  go_enter Try.func21, Try.ntmps21
  go_wp2_with fail
  refine CB.out.mono ?_
  rintro e w1 ⟨i, f, rfl, h1, h2, h3, h4, hw⟩
  subst hw
  have HC := Lib.hid (show Cut b a i from ⟨h1, h2, h3⟩)
  rw [HN.out] at h1
  cases f with
  | true =>
    have hb := h4.1 rfl
    have hin : i < n := by have := (List.getElem?_eq_some_iff.1 hb).1; rw [HN.out] at this; exact this
    have HX := Lib.hid (HC.out.next_yes HS.out hb)
    clear h2 h3 h4 hb
    by_cases hj : i + 1 = n
    · have HY : Hid (nextL b a = -1) := Lib.hid (by rw [HX.out, List.getElem?_eq_none (by rw [HN.out]; omega)]; rfl)
      subst hj
      go_wp2
      go_ret
      exact ⟨by rw [HY.out]; rfl, rfl⟩
    · obtain ⟨bb, oo, q, hA, hbl, hq, cq⟩ := HR.out.at_int (k := i + 1) (by rw [HN.out]; omega)
      subst hA
      have HY : Hid (nextL b a = q) := Lib.hid (by rw [HX.out, hq.out]; rfl)
      have hne : ((i : Int) + 1 == (n : Int)) = false := by simp; omega
      go_wp2
      go_ret
      exact ⟨by rw [HY.out]; rfl, rfl⟩
  | false =>
    have HX := Lib.hid (HC.out.next_no (fun h => by have := h4.2 h; cases this))
    clear h2 h3 h4
    by_cases hj : i = n
    · have HY : Hid (nextL b a = -1) := Lib.hid (by rw [HX.out, List.getElem?_eq_none (by rw [HN.out]; omega)]; rfl)
      subst hj
      go_wp2
      go_ret
      exact ⟨by rw [HY.out]; rfl, rfl⟩
    · obtain ⟨bb, oo, q, hA, hbl, hq, cq⟩ := HR.out.at_int (k := i) (by rw [HN.out]; omega)
      subst hA
      have HY : Hid (nextL b a = q) := Lib.hid (by rw [HX.out, hq.out]; rfl)
      have hne : ((i : Int) == (n : Int)) = false := by simp; omega
      have hin : i < n := by omega
      go_wp2
      go_ret
      exact ⟨by rw [HY.out]; rfl, rfl⟩
set_option maxRecDepth 100000 in
set_option maxHeartbeats 2000000 in
theorem docP_raw (D T : Nat) (cs : Array Value) (A : Option Addr) (n c : Nat) (b : List Int) (a : Int) (w : World) (hD : Blk w D T cs) (hc : cs[10]? = some (.slice A n c)) (hR : Row w w.heap.size A (ints b)) (hn : b.length = n) (hl : n ≤ 1000000) (hs : List.Pairwise (· < ·) b) :
    Calls Try.prog 23 #[.pointer (some ⟨D, 0, none⟩), .int .i64 a] w fun e w' => e = .returned (.int .i64 (prevL b a)) ∧ w' = w := by
  have CB := Lib.hid (bs_any A n c b a w hR hn hl hs)
  unfold RetBs at CB
  have e10 := (hD.cell 10).trans hc
  have el := hD.lt
  have HR := Lib.hid hR
  have HN := Lib.hid hn
  clear hD hc hR hn hs
  go_enter Try.func23, Try.ntmps23
  go_wp2_with fail
  refine CB.out.mono ?_
  rintro e w1 ⟨i, f, rfl, h1, h2, h3, h4, hw⟩
  subst hw
  have HX := Lib.hid (show Cut b a i from ⟨h1, h2, h3⟩).prev
  rw [HN.out] at h1
  clear h2 h3 h4
  by_cases hj : i = 0
  · subst hj
    go_wp2
    go_ret
    exact ⟨by rw [HX.out]; rfl, rfl⟩
  · obtain ⟨k, rfl⟩ : ∃ k, i = k + 1 := ⟨i - 1, by omega⟩
    obtain ⟨bb, oo, q, hA, hbl, hq, cq⟩ := HR.out.at_int (k := k) (by rw [HN.out]; omega)
    subst hA
    have HY : Hid (prevL b a = q) := Lib.hid (by rw [HX.out, if_neg hj, show k + 1 - 1 = k by omega, hq.out]; rfl)
    have hne : ((k : Int) + 1 == 0) = false := by simp; omega
    clear hj
    go_wp2
    go_ret
    exact ⟨by rw [HY.out]; rfl, rfl⟩
theorem docN_nil (a : Int) (w : World) : Calls Try.prog 21 #[.pointer none, .int .i64 a] w fun e w' => e = .returned (.int .i64 (-1)) ∧ w' = w := by
  go_enter Try.func21, Try.ntmps21
  go_wp2
  go_ret
  exact ⟨rfl, rfl⟩
theorem docP_nil (a : Int) (w : World) : Calls Try.prog 23 #[.pointer none, .int .i64 a] w fun e w' => e = .returned (.int .i64 (-1)) ∧ w' = w := by
  go_enter Try.func23, Try.ntmps23
  go_wp2
  go_ret
  exact ⟨rfl, rfl⟩
theorem undo_nil (w : World) : Calls Try.prog 14 #[.pointer none] w fun e w' => e = .returned (.bool false) ∧ w' = w := by
  go_enter Try.func14, Try.ntmps14
  go_wp2
  go_ret
  exact ⟨rfl, rfl⟩
theorem docN_any (B D : Nat) (uv : Value) (p : PR) (t : BT) (X : List Int) (U : List EdN) (a : Int) (w : World) (h : DocAt w B D uv p t X U) (hl : X.length ≤ 10000) :
    Calls Try.prog 21 #[.pointer (some ⟨D, 0, none⟩), .int .i64 a] w fun e w' => e = .returned (.int .i64 (nextL (bndL p t X) a)) ∧ w' = w := by
  obtain ⟨x, y, At, cX, Ac, cC, vs, hD, h2, h3, h5, h6, h7, h8⟩ := h
  exact docN_raw D _ _ _ _ _ _ a w hD rfl h8.1.of_era rfl (by have := bnd_len p t X; omega) (bnd_sorted p t X)
theorem docP_any (B D : Nat) (uv : Value) (p : PR) (t : BT) (X : List Int) (U : List EdN) (a : Int) (w : World) (h : DocAt w B D uv p t X U) (hl : X.length ≤ 10000) :
    Calls Try.prog 23 #[.pointer (some ⟨D, 0, none⟩), .int .i64 a] w fun e w' => e = .returned (.int .i64 (prevL (bndL p t X) a)) ∧ w' = w := by
  obtain ⟨x, y, At, cX, Ac, cC, vs, hD, h2, h3, h5, h6, h7, h8⟩ := h
  exact docP_raw D _ _ _ _ _ _ a w hD rfl h8.1.of_era rfl (by have := bnd_len p t X; omega) (bnd_sorted p t X)
end Go.Proofs.Ytkpblieanejmeaa
