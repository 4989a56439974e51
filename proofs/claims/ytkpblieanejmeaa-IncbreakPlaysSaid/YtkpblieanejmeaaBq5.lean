/-
  anywhere.Is, Next, Previous; ref31.Is, Next, Previous.
-/
import Derived.Test.YtkpblieanejmeaaBq4
namespace Go.UtYtkpblieanejmeaa
def nextL (b : List Int) (a : Int) : Int := (b.find? fun q => decide (a < q)).getD (-1)
def prevL (b : List Int) (a : Int) : Int := ((b.filter fun q => decide (q < a)).getLast?).getD (-1)
theorem next_hit {b : List Int} {a q : Int} {k : Nat} (h : ∀ z ∈ b.take k, ¬ a < z) (hk : b[k]? = some q) (hq : a < q) : nextL b a = q := by
  obtain ⟨h1, h2⟩ := List.getElem?_eq_some_iff.1 hk
  unfold nextL
  rw [← List.take_append_drop k b, List.drop_eq_getElem_cons h1, h2, List.find?_append, List.find?_eq_none.2 (fun z hz => by simpa using h z hz)]
  simp [hq]
theorem next_miss {b : List Int} {a : Int} (h : ∀ z ∈ b, ¬ a < z) : nextL b a = -1 := by
  unfold nextL
  rw [List.find?_eq_none.2 (fun z hz => by simpa using h z hz)]
  rfl
theorem prev_snoc {b : List Int} {a q : Int} {k : Nat} (hk : b[k]? = some q) : prevL (b.take (k + 1)) a = if q < a then q else prevL (b.take k) a := by
  obtain ⟨h1, h2⟩ := List.getElem?_eq_some_iff.1 hk
  unfold prevL
  rw [List.take_succ_eq_append_getElem h1, h2, List.filter_append]
  by_cases hq : q < a
  · rw [if_pos hq]
    simp [hq]
  · rw [if_neg hq]
    simp [hq]
theorem ends_len (l : List Int) : (endsL l).length ≤ l.length := by
  unfold endsL
  rw [List.length_map]
  exact Nat.le_trans (List.length_filter_le _ _) (by simp)
end Go.UtYtkpblieanejmeaa
namespace Go.Proofs.Ytkpblieanejmeaa
open Go.RowKit Go.UtYtkpblieanejmeaa
theorem bnd_len (p : PR) (t : BT) (text : List Int) : (bndL p t text).length ≤ text.length + 1 := by
  rw [bnd_eq]
  exact Nat.le_trans (ends_len _) (acV_len p t text)
set_option maxRecDepth 100000 in
set_option maxHeartbeats 2000000 in
theorem rnext_any (x : PA) (p : PR) (y : TA) (t : BT) (At : Option Addr) (ct : Nat) (text : List Int) (w : World) (h : PrAt w w.heap.size x p) (hsp : p.spans.length ≤ 100000) (hY : TabAt w w.heap.size y t) (hsm : t.cls.length ≤ 1000 ∧ t.act.length ≤ 1000) (hT : Row w w.heap.size At (ints text)) (hll : text.length ≤ 10000) (a : Int) :
    Calls Try.prog 50 #[x.val p, y.val t, .slice At text.length ct, .int .i64 a] w fun e w' => e = .returned (.int .i64 (nextL (bndL p t text) a)) ∧ Below w.heap.size w w' := by
  have CB := Lib.hid (fun (u : World) (hu : Below w.heap.size w u) => rbounds_any x p y t At ct text u (h.below hu).lt hsp (hY.below hu).lt hsm (hT.below hu).lt hll)
  unfold PA.val at CB ⊢
  unfold TA.val at CB ⊢
  unfold RetI at CB
  obtain ⟨w1, hw1, HB1, HK1⟩ := boxV w 25 #[.slice x.n p.names.length x.cn, .slice x.s p.spans.length x.cs]
  obtain ⟨w2, hw2, HB2', HK2'⟩ := boxT w1 31 y t
  have HB2 := Lib.hid (HB1.out.trans (HB2'.out.mono HB1.out.size))
  have HK2 := Lib.hid (HK1.out.after HB2'.out)
  have hs1 : w1.heap.size = w.heap.size + 1 := by rw [hw1]; simp
  obtain ⟨g, hg⟩ : ∃ g, g = w1.heap.size := ⟨_, rfl⟩
  rw [← hg] at HK2'
  have hgw : g = w.heap.size + 1 := by omega
  obtain ⟨q0, q1, ql⟩ := blk2 HK2.out
  obtain ⟨r0, r1, r2, r3, r4, r5, rl⟩ := tab6 HK2'.out
  obtain ⟨n, hn⟩ : ∃ n, text.length = n := ⟨_, rfl⟩
  have hbl := bnd_len p t text
  rw [hn] at CB hll hbl ⊢
  obtain ⟨b, hb⟩ : ∃ b, bndL p t text = b := ⟨_, rfl⟩
  rw [hb] at CB hbl ⊢
  obtain ⟨N, hN⟩ : ∃ n, b.length = n := ⟨_, rfl⟩
  rw [hN] at CB hbl
  have HNN := Lib.hid hN
  clear h hY hT hn hN hb
  go_enter Try.func50, Try.ntmps50
  go_upto_region 1 with fail
  rw [← hw1, ← hw2, ← hgw]
  clear hw1 hw2 hs1 hg hgw
  go_wp2_with fail
  refine (CB.out w2 HB2.out).mono ?_
  rintro e w3 ⟨A3, c3, rfl, g1, g2, hr3, hb3⟩
  have HB3 := Lib.hid (HB2.out.trans (hb3.mono HB2.out.size))
  have HRL := Lib.hid hr3
  clear hr3 hb3 g1 g2 q0 q1 ql r0 r1 r2 r3 r4 r5 rl
  go_wp2
  go_loopw [16] (fun i wr => ∃ k : Nat, k ≤ N ∧ i = .int .i64 (k : Int) ∧ Hid (∀ z ∈ b.take k, ¬ a < z) ∧ wr = w3) (fun i _ => N - (intOf i).toNat)
  case atStart => exact ⟨0, by omega, rfl, fun z hz => by simp at hz, rfl⟩
  case round =>
    obtain ⟨k, hk, rfl, HK, hw⟩ := hrel
    subst wr
    by_cases hkn : k < N
    · obtain ⟨bb, o, z, rfl, hbb, hx, cc⟩ := HRL.out.at_int (k := k) (by rw [HNN.out]; exact hkn)
      by_cases hz : a < z
      · have HF := Lib.hid (next_hit HK.out hx.out hz)
        have dz : decide (a < z) = true := decide_eq_true hz
        go_wp2
        go_ret
        exact ⟨ret_int HF.out.symm, HB3.out⟩
      · have dz : decide (a < z) = false := decide_eq_false hz
        have HK' := Lib.hid (all_snoc (P := fun z => ¬ a < z) HK.out hx.out hz)
        go_wp2
        go_roundw
        case rel => exact ⟨k + 1, by omega, by go_num, HK', by trivial⟩
        case measure => simp [intOf]; omega
    · have HF := Lib.hid (next_miss (all_take HK.out (by rw [HNN.out]; omega)))
      go_wp2
      go_ret
      exact ⟨ret_int HF.out.symm, HB3.out⟩
set_option maxRecDepth 100000 in
set_option maxHeartbeats 2000000 in
theorem rprev_any (x : PA) (p : PR) (y : TA) (t : BT) (At : Option Addr) (ct : Nat) (text : List Int) (w : World) (h : PrAt w w.heap.size x p) (hsp : p.spans.length ≤ 100000) (hY : TabAt w w.heap.size y t) (hsm : t.cls.length ≤ 1000 ∧ t.act.length ≤ 1000) (hT : Row w w.heap.size At (ints text)) (hll : text.length ≤ 10000) (a : Int) :
    Calls Try.prog 51 #[x.val p, y.val t, .slice At text.length ct, .int .i64 a] w fun e w' => e = .returned (.int .i64 (prevL (bndL p t text) a)) ∧ Below w.heap.size w w' := by
  have CB := Lib.hid (fun (u : World) (hu : Below w.heap.size w u) => rbounds_any x p y t At ct text u (h.below hu).lt hsp (hY.below hu).lt hsm (hT.below hu).lt hll)
  unfold PA.val at CB ⊢
  unfold TA.val at CB ⊢
  unfold RetI at CB
  obtain ⟨w1, hw1, HB1, HK1⟩ := boxV w 25 #[.slice x.n p.names.length x.cn, .slice x.s p.spans.length x.cs]
  obtain ⟨w2, hw2, HB2', HK2'⟩ := boxT w1 31 y t
  have HB2 := Lib.hid (HB1.out.trans (HB2'.out.mono HB1.out.size))
  have HK2 := Lib.hid (HK1.out.after HB2'.out)
  have hs1 : w1.heap.size = w.heap.size + 1 := by rw [hw1]; simp
  obtain ⟨g, hg⟩ : ∃ g, g = w1.heap.size := ⟨_, rfl⟩
  rw [← hg] at HK2'
  have hgw : g = w.heap.size + 1 := by omega
  obtain ⟨q0, q1, ql⟩ := blk2 HK2.out
  obtain ⟨r0, r1, r2, r3, r4, r5, rl⟩ := tab6 HK2'.out
  obtain ⟨n, hn⟩ : ∃ n, text.length = n := ⟨_, rfl⟩
  have hbl := bnd_len p t text
  rw [hn] at CB hll hbl ⊢
  obtain ⟨b, hb⟩ : ∃ b, bndL p t text = b := ⟨_, rfl⟩
  rw [hb] at CB hbl ⊢
  obtain ⟨N, hN⟩ : ∃ n, b.length = n := ⟨_, rfl⟩
  rw [hN] at CB hbl
  have HNN := Lib.hid hN
  clear h hY hT hn hN hb
  go_enter Try.func51, Try.ntmps51
  go_upto_region 1 with fail
  rw [← hw1, ← hw2, ← hgw]
  clear hw1 hw2 hs1 hg hgw
  go_wp2_with fail
  refine (CB.out w2 HB2.out).mono ?_
  rintro e w3 ⟨A3, c3, rfl, g1, g2, hr3, hb3⟩
  have HB3 := Lib.hid (HB2.out.trans (hb3.mono HB2.out.size))
  have HRL := Lib.hid hr3
  clear hr3 hb3 g1 g2 q0 q1 ql r0 r1 r2 r3 r4 r5 rl
  go_wp2
  go_loopw [9, 17] (fun u i wr => ∃ (k : Nat) (r : Int), k ≤ N ∧ i = .int .i64 (k : Int) ∧ u = .int .i64 r ∧ Hid (prevL (b.take k) a = r) ∧ wr = w3) (fun _ i _ => N - (intOf i).toNat)
  case atStart => exact ⟨0, -1, by omega, rfl, rfl, rfl, rfl⟩
  case round =>
    obtain ⟨k, r, hk, rfl, rfl, HK, hw⟩ := hrel
    subst wr
    by_cases hkn : k < N
    · obtain ⟨bb, o, z, rfl, hbb, hx, cc⟩ := HRL.out.at_int (k := k) (by rw [HNN.out]; exact hkn)
      have HSN := Lib.hid (prev_snoc (a := a) hx.out)
      by_cases hz : z < a
      · have dz : decide (z < a) = true := decide_eq_true hz
        have HK' : Hid (prevL (b.take (k + 1)) a = z) := by
          show _ = _
          rw [HSN.out, if_pos hz]
        go_wp2
        go_roundw
        case rel => exact ⟨k + 1, z, by omega, by go_num, rfl, HK', by trivial⟩
        case measure => simp [intOf]; omega
      · have dz : decide (z < a) = false := decide_eq_false hz
        have HK' : Hid (prevL (b.take (k + 1)) a = r) := by
          show _ = _
          rw [HSN.out, if_neg hz, HK.out]
        go_wp2
        go_roundw
        case rel => exact ⟨k + 1, r, by omega, by go_num, rfl, HK', by trivial⟩
        case measure => simp [intOf]; omega
    · have HF : Hid (prevL b a = r) := by
        have := HK.out
        rw [List.take_of_length_le (by rw [HNN.out]; omega)] at this
        exact this
      go_wp2
      go_ret
      exact ⟨ret_int HF.out.symm, HB3.out⟩
end Go.Proofs.Ytkpblieanejmeaa
