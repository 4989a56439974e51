/-
  segment.Actions, Boundaries; ref30.Actions, Ends, Boundaries.
-/
import Derived.Test.YtkpblieanejmeaaBq3
namespace Go.UtYtkpblieanejmeaa
open Classical in
noncomputable def acV (p : PR) (t : BT) (text : List Int) : List Int := if validT t then actsL t (clsL p t text) else []
theorem bnd_eq (p : PR) (t : BT) (text : List Int) : bndL p t text = endsL (acV p t text) := by
  unfold bndL acV
  by_cases h : validT t
  · rw [if_pos h, if_pos h]
  · rw [if_neg h, if_neg h]
    rfl
theorem ends_snoc {l : List Int} {k : Nat} {x : Int} (h : l[k]? = some x) : endsL (l.take (k + 1)) = endsL (l.take k) ++ (if x = 1 then [] else [(k : Int)]) := by
  obtain ⟨h1, h2⟩ := List.getElem?_eq_some_iff.1 h
  unfold endsL
  rw [List.length_take, List.length_take, Nat.min_eq_left (by omega), Nat.min_eq_left (by omega), List.range_succ, List.filter_append, List.map_append]
  congr 1
  · congr 1
    apply List.filter_congr
    intro i hi
    have := List.mem_range.1 hi
    simp only [List.getD_eq_getElem?_getD]
    rw [List.getElem?_take, List.getElem?_take, if_pos (by omega), if_pos (by omega)]
  · have h3 : (l.take (k + 1)).getD k 1 = x := by
      rw [List.getD_eq_getElem?_getD, List.getElem?_take, if_pos (by omega), h]
      rfl
    by_cases hx : x = 1
    · rw [if_pos hx]
      simp only [List.filter_cons, List.filter_nil, h3]
      simp [hx]
    · rw [if_neg hx]
      simp only [List.filter_cons, List.filter_nil, h3]
      simp [hx]
end Go.UtYtkpblieanejmeaa
namespace Go.Proofs.Ytkpblieanejmeaa
open Go.RowKit Go.UtYtkpblieanejmeaa
theorem actL_cls (p : PR) (t : BT) (text : List Int) : actL t (clsV p t text) = acV p t text := by
  unfold actL acV clsV
  by_cases h : validT t
  · rw [if_pos h, if_pos h, if_pos ⟨clsL_fit h, h⟩]
  · rw [if_neg h, if_neg h, if_neg (fun hh => h hh.2)]
theorem clsV_len (p : PR) (t : BT) (text : List Int) : (clsV p t text).length ≤ text.length := by
  unfold clsV
  by_cases h : validT t
  · rw [if_pos h]; unfold clsL; simp
  · rw [if_neg h]; simp
theorem acV_len (p : PR) (t : BT) (text : List Int) : (acV p t text).length ≤ text.length + 1 := by
  unfold acV
  by_cases h : validT t
  · rw [if_pos h, acts_len]; unfold clsL; simp
  · rw [if_neg h]; simp
set_option maxRecDepth 100000 in
set_option maxHeartbeats 2000000 in
theorem actionsS_any (x : PA) (p : PR) (y : TA) (t : BT) (At : Option Addr) (ct : Nat) (text : List Int) (w : World) (h : PrAt w w.heap.size x p) (hsp : p.spans.length ≤ 100000) (hY : TabAt w w.heap.size y t) (hsm : t.cls.length ≤ 1000 ∧ t.act.length ≤ 1000) (hT : Row w w.heap.size At (ints text)) (hll : text.length ≤ 10000) :
    Calls Try.prog 81 #[x.val p, y.val t, .slice At text.length ct] w (RetI w (acV p t text)) := by
  have CC := Lib.hid (fun (u : World) (hu : Below w.heap.size w u) => classes_any x p y t At ct text u (h.below hu).lt hsp (hY.below hu).lt hsm (hT.below hu).lt (by omega))
  have CA := Lib.hid (fun (u : World) (hu : Below w.heap.size w u) (A : Option Addr) (c : Nat) (hr : Row u u.heap.size A (ints (clsV p t text))) => actions_any y t A c (clsV p t text) u (hY.below hu).lt hsm hr (by have := clsV_len p t text; omega))
  have CV := Lib.hid (fun (u : World) (hu : Below w.heap.size w u) (v : Bool) (hv : v = true ↔ validT t) => valid_any y t u (hY.below hu).lt hsm v hv)
  unfold TA.val at CV
  unfold PA.val at CC ⊢
  unfold TA.val at CC CA ⊢
  unfold RetI at CC CA
  rw [actL_cls] at CA
  obtain ⟨w1, hw1, HB1, HK1⟩ := boxV w 25 #[.slice x.n p.names.length x.cn, .slice x.s p.spans.length x.cs]
  obtain ⟨w2, hw2, HB2', HK2'⟩ := boxT w1 31 y t
  have HB2 := Lib.hid (HB1.out.trans (HB2'.out.mono HB1.out.size))
  have HK2 := Lib.hid (HK1.out.after HB2'.out)
  have hs1 : w1.heap.size = w.heap.size + 1 := by rw [hw1]; simp
  obtain ⟨g, hg⟩ : ∃ g, g = w1.heap.size := ⟨_, rfl⟩
  rw [← hg] at HK2'
  have hgw : g = w.heap.size + 1 := by omega
  obtain ⟨q0, q1, ql⟩ := blk2 HK2.out
  obtain ⟨r0, r1, r2, r3, r4, r5, rl⟩ := tab6 HK2'.out
  obtain ⟨n, hn⟩ : ∃ n, text.length = n := ⟨_, rfl⟩
  rw [hn] at CC hll ⊢
  obtain ⟨m, hm⟩ : ∃ n, (clsV p t text).length = n := ⟨_, rfl⟩
  obtain ⟨N, hN⟩ : ∃ n, (acV p t text).length = n := ⟨_, rfl⟩
  rw [hm] at CC CA
  rw [hN] at CA
  have HNN := Lib.hid hN
  clear h hY hT hn hm hN
  go_enter Try.func81, Try.ntmps81
  go_upto_region 1 with fail
  rw [← hw1, ← hw2, ← hgw]
  clear hw1 hw2 hs1 hg hgw
  by_cases hv : validT t
  case neg =>
    have HX : Hid (acV p t text = []) := by
      show _ = _
      unfold acV
      rw [if_neg hv]
    go_wp2_with fail
    refine (CV.out w2 HB2.out false ⟨fun h => (by cases h), fun h => absurd h hv⟩).mono ?_
    rintro e w3 ⟨rfl, hb3⟩
    have HB3 := Lib.hid (HB2.out.trans (hb3.mono HB2.out.size))
    clear hb3
    go_wp2
    go_ret
    rw [HX.out]
    exact ⟨none, 0, rfl, by simp, by simp [maxLen], Row.nil, HB3.out⟩
  case pos =>
    go_wp2_with fail
    refine (CV.out w2 HB2.out true ⟨fun _ => hv, fun _ => rfl⟩).mono ?_
    rintro e w3 ⟨rfl, hb3⟩
    have HB3 := Lib.hid (HB2.out.trans (hb3.mono HB2.out.size))
    have HK3 := Lib.hid (HK2.out.after hb3)
    have HK3' := Lib.hid (HK2'.out.after hb3)
    clear hb3 q0 q1 ql r0 r1 r2 r3 r4 r5 rl hv
    go_upto_region 3 with fail
    refine wp_region_tree (fun w' => Blk w' w.heap.size 25 #[.slice x.n p.names.length x.cn, .slice x.s p.spans.length x.cs] ∧ Blk w' g 31 (y.cs t)) (.float 0 (.float 1 (.float 2 (.float 3 (.one 4 (.one 5 (.float 6 .done))))))) (by kernel_rfl) (by kernel_rfl) (fun _ _ d _ _ h => by cases d <;> exact h) ⟨HK3.out.drew, HK3'.out.drew⟩ ?_
    repeat (first
      | (refine wpTr_fskip (by simp only [List.getElem?_toArray, List.getElem?_cons_zero, List.getElem?_cons_succ]; rfl) (by rfl) ?_
         simp only [Act.put, List.setIfInBounds_toArray, List.set_cons_zero, List.set_cons_succ])
      | (refine wpTr_float (v := ?_) (by simp only [List.getElem?_toArray, List.getElem?_cons_zero, List.getElem?_cons_succ]; rfl) (by rfl) (fun w' hS => ?_) ?_
         rotate_left
         ((obtain ⟨hSK, hST⟩ := hS; obtain ⟨a0', a1', al'⟩ := blk2 hSK; obtain ⟨e0', e1', e2', e3', e4', e5', el'⟩ := tab6 hST); go_simp; first | done | rfl)
         simp only [Act.put, List.setIfInBounds_toArray, List.set_cons_zero, List.set_cons_succ]))
    refine wpTr_one ?_
    refine stepTr_K (by simp only [List.getElem?_toArray, List.getElem?_cons_zero, List.getElem?_cons_succ]; rfl) (by rfl) (fun K hK => ?_)
    go_simp
    refine (CC.out w3.drew HB3.out.drew).mono ?_
    rintro e w5 ⟨A5, c5, rfl, g1, g2, hr5, hb5⟩
    have HBL5 : Hid (Below w3.heap.size w3 w5) := (Below.refl _ _).drew.trans hb5
    have HB5 := Lib.hid (HB3.out.trans (HBL5.out.mono HB3.out.size))
    have HK5 := Lib.hid (HK3.out.after HBL5.out)
    have HK5' := Lib.hid (HK3'.out.after HBL5.out)
    have CA5 := CA.out w5 HB5.out A5 c5 hr5
    refine hK.out _ _ ⟨HK5.out, HK5'.out⟩ ?_
    clear hK K g1 g2 hr5 hb5
    try simp only [Act.put, List.setIfInBounds_toArray, List.set_cons_zero, List.set_cons_succ]
    refine wpTr_one ?_
    refine stepTr_K (by simp only [List.getElem?_toArray, List.getElem?_cons_zero, List.getElem?_cons_succ]; rfl) (by rfl) (fun K hK => ?_)
    go_simp
    refine CA5.mono ?_
    rintro e w6 ⟨A6, c6, rfl, g1, g2, hr6, hb6⟩
    have HB6 := Lib.hid (HB5.out.trans (hb6.mono HB5.out.size))
    have HR6 := Lib.hid hr6
    refine hK.out _ _ ⟨HK5.out.after hb6, HK5'.out.after hb6⟩ ?_
    clear hK K hr6 hb6
    try simp only [Act.put, List.setIfInBounds_toArray, List.set_cons_zero, List.set_cons_succ]
    repeat (first
      | (refine wpTr_fskip (by simp only [List.getElem?_toArray, List.getElem?_cons_zero, List.getElem?_cons_succ]; rfl) (by rfl) ?_
         simp only [Act.put, List.setIfInBounds_toArray, List.set_cons_zero, List.set_cons_succ])
      | (refine wpTr_float (v := ?_) (by simp only [List.getElem?_toArray, List.getElem?_cons_zero, List.getElem?_cons_succ]; rfl) (by rfl) (fun w' hS => ?_) ?_
         rotate_left
         ((skip); go_simp; first | done | rfl)
         simp only [Act.put, List.setIfInBounds_toArray, List.set_cons_zero, List.set_cons_succ]))
    refine wpTr_done ?_
    go_wp2
    go_ret
    exact ⟨A6, c6, by rw [HNN.out]; rfl, by rw [HNN.out]; exact g1, g2, HR6.out, HB6.out⟩
set_option maxRecDepth 100000 in
set_option maxHeartbeats 2000000 in
theorem ractionsS_any (x : PA) (p : PR) (y : TA) (t : BT) (At : Option Addr) (ct : Nat) (text : List Int) (w : World) (h : PrAt w w.heap.size x p) (hsp : p.spans.length ≤ 100000) (hY : TabAt w w.heap.size y t) (hsm : t.cls.length ≤ 1000 ∧ t.act.length ≤ 1000) (hT : Row w w.heap.size At (ints text)) (hll : text.length ≤ 10000) :
    Calls Try.prog 56 #[x.val p, y.val t, .slice At text.length ct] w (RetI w (acV p t text)) := by
  have CC := Lib.hid (fun (u : World) (hu : Below w.heap.size w u) => classes30_any x p y t At ct text u (h.below hu).lt hsp (hY.below hu).lt hsm (hT.below hu).lt (by omega))
  have CA := Lib.hid (fun (u : World) (hu : Below w.heap.size w u) (A : Option Addr) (c : Nat) (hr : Row u u.heap.size A (ints (clsV p t text))) => ractions_any y t A c (clsV p t text) u (hY.below hu).lt hsm hr (by have := clsV_len p t text; omega))
  unfold PA.val at CC ⊢
  unfold TA.val at CC CA ⊢
  unfold RetI at CC CA
  rw [actL_cls] at CA
  obtain ⟨w1, hw1, HB1, HK1⟩ := boxV w 25 #[.slice x.n p.names.length x.cn, .slice x.s p.spans.length x.cs]
  obtain ⟨w2, hw2, HB2', HK2'⟩ := boxT w1 31 y t
  have HB2 := Lib.hid (HB1.out.trans (HB2'.out.mono HB1.out.size))
  have HK2 := Lib.hid (HK1.out.after HB2'.out)
  have hs1 : w1.heap.size = w.heap.size + 1 := by rw [hw1]; simp
  obtain ⟨g, hg⟩ : ∃ g, g = w1.heap.size := ⟨_, rfl⟩
  rw [← hg] at HK2'
  have hgw : g = w.heap.size + 1 := by omega
  obtain ⟨q0, q1, ql⟩ := blk2 HK2.out
  obtain ⟨r0, r1, r2, r3, r4, r5, rl⟩ := tab6 HK2'.out
  obtain ⟨n, hn⟩ : ∃ n, text.length = n := ⟨_, rfl⟩
  rw [hn] at CC hll ⊢
  obtain ⟨m, hm⟩ : ∃ n, (clsV p t text).length = n := ⟨_, rfl⟩
  obtain ⟨N, hN⟩ : ∃ n, (acV p t text).length = n := ⟨_, rfl⟩
  rw [hm] at CC CA
  rw [hN] at CA
  have HNN := Lib.hid hN
  clear h hY hT hn hm hN
  go_enter Try.func56, Try.ntmps56
  go_upto_region 1 with fail
  rw [← hw1, ← hw2, ← hgw]
  clear hw1 hw2 hs1 hg hgw
  clear q0 q1 ql r0 r1 r2 r3 r4 r5 rl
  refine wp_region_tree (fun w' => Blk w' w.heap.size 25 #[.slice x.n p.names.length x.cn, .slice x.s p.spans.length x.cs] ∧ Blk w' g 31 (y.cs t)) (.float 0 (.float 1 (.float 2 (.float 3 (.one 4 (.one 5 (.float 6 .done))))))) (by kernel_rfl) (by kernel_rfl) (fun _ _ d _ _ h => by cases d <;> exact h) ⟨HK2.out.drew, HK2'.out.drew⟩ ?_
  repeat (first
    | (refine wpTr_fskip (by simp only [List.getElem?_toArray, List.getElem?_cons_zero, List.getElem?_cons_succ]; rfl) (by rfl) ?_
       simp only [Act.put, List.setIfInBounds_toArray, List.set_cons_zero, List.set_cons_succ])
    | (refine wpTr_float (v := ?_) (by simp only [List.getElem?_toArray, List.getElem?_cons_zero, List.getElem?_cons_succ]; rfl) (by rfl) (fun w' hS => ?_) ?_
       rotate_left
       ((obtain ⟨hSK, hST⟩ := hS; obtain ⟨a0', a1', al'⟩ := blk2 hSK; obtain ⟨e0', e1', e2', e3', e4', e5', el'⟩ := tab6 hST); go_simp; first | done | rfl)
       simp only [Act.put, List.setIfInBounds_toArray, List.set_cons_zero, List.set_cons_succ]))
  refine wpTr_one ?_
  refine stepTr_K (by simp only [List.getElem?_toArray, List.getElem?_cons_zero, List.getElem?_cons_succ]; rfl) (by rfl) (fun K hK => ?_)
  go_simp
  refine (CC.out w2.drew HB2.out.drew).mono ?_
  rintro e w5 ⟨A5, c5, rfl, g1, g2, hr5, hb5⟩
  have HBL5 : Hid (Below w2.heap.size w2 w5) := (Below.refl _ _).drew.trans hb5
  have HB5 := Lib.hid (HB2.out.trans (HBL5.out.mono HB2.out.size))
  have HK5 := Lib.hid (HK2.out.after HBL5.out)
  have HK5' := Lib.hid (HK2'.out.after HBL5.out)
  have CA5 := CA.out w5 HB5.out A5 c5 hr5
  refine hK.out _ _ ⟨HK5.out, HK5'.out⟩ ?_
  clear hK K g1 g2 hr5 hb5
  try simp only [Act.put, List.setIfInBounds_toArray, List.set_cons_zero, List.set_cons_succ]
  refine wpTr_one ?_
  refine stepTr_K (by simp only [List.getElem?_toArray, List.getElem?_cons_zero, List.getElem?_cons_succ]; rfl) (by rfl) (fun K hK => ?_)
  go_simp
  refine CA5.mono ?_
  rintro e w6 ⟨A6, c6, rfl, g1, g2, hr6, hb6⟩
  have HB6 := Lib.hid (HB5.out.trans (hb6.mono HB5.out.size))
  have HR6 := Lib.hid hr6
  refine hK.out _ _ ⟨HK5.out.after hb6, HK5'.out.after hb6⟩ ?_
  clear hK K hr6 hb6
  try simp only [Act.put, List.setIfInBounds_toArray, List.set_cons_zero, List.set_cons_succ]
  repeat (first
    | (refine wpTr_fskip (by simp only [List.getElem?_toArray, List.getElem?_cons_zero, List.getElem?_cons_succ]; rfl) (by rfl) ?_
       simp only [Act.put, List.setIfInBounds_toArray, List.set_cons_zero, List.set_cons_succ])
    | (refine wpTr_float (v := ?_) (by simp only [List.getElem?_toArray, List.getElem?_cons_zero, List.getElem?_cons_succ]; rfl) (by rfl) (fun w' hS => ?_) ?_
       rotate_left
       ((skip); go_simp; first | done | rfl)
       simp only [Act.put, List.setIfInBounds_toArray, List.set_cons_zero, List.set_cons_succ]))
  refine wpTr_done ?_
  go_wp2
  go_ret
  exact ⟨A6, c6, by rw [HNN.out]; rfl, by rw [HNN.out]; exact g1, g2, HR6.out, HB6.out⟩
set_option maxRecDepth 100000 in
set_option maxHeartbeats 2000000 in
theorem ends30_any (A : Option Addr) (c : Nat) (l : List Int) (w : World) (hl : Row w w.heap.size A (ints l)) (hll : l.length ≤ 100000) :
    Calls Try.prog 55 #[.slice A l.length c] w (RetI w (endsL l)) := by
  obtain ⟨N, hN⟩ : ∃ n, l.length = n := ⟨_, rfl⟩
  have HNN := Lib.hid hN
  have HRL := Lib.hid hl
  have HBF : Hid (Below w.heap.size w w) := Below.refl _ _
  rw [hN] at hll ⊢
  clear hl hN
  obtain ⟨i0, hi0, hz0, hz1, hz2⟩ := info_parts in_info31
  go_enter Try.func55, Try.ntmps55
  go_wp2
  go_loopw [3, 4] (fun vo i wr => ∃ (k no c0 : Nat) (A0 : Option Addr), k ≤ N ∧ i = .int .i64 (k : Int) ∧ vo = .slice A0 no c0 ∧ no ≤ k ∧ Hid (wr.ownsRow w.heap.size 3 1 (.slice A0 no c0) no (ints (endsL (l.take k)))) ∧ Hid (Below w.heap.size w wr)) (fun _ i _ => N - (intOf i).toNat)
  case atStart => exact ⟨0, 0, 0, none, by omega, rfl, rfl, by omega, own_nil _, Below.refl _ _⟩
  case round =>
    obtain ⟨k, no, c0, A0, hk, rfl, rfl, hno, HO, HB⟩ := hrel
    have hbr := HB.out.size
    by_cases hkn : k < N
    · obtain ⟨b, o, z, rfl, hb, hx, cc⟩ := (HRL.out.below HB.out).at_int (k := k) (by rw [HNN.out]; exact hkn)
      have hbl : b < wr.heap.size := by omega
      have HSN := Lib.hid (ends_snoc hx.out)
      by_cases hz : z = 1
      · have HO' : Hid (wr.ownsRow w.heap.size 3 1 (.slice A0 no c0) no (ints (endsL (l.take (k + 1))))) := by
          have := HSN.out
          rw [if_pos hz, List.append_nil] at this
          rw [this]
          exact HO.out
        subst hz
        go_wp2
        go_roundw
        case rel => exact ⟨k + 1, no, c0, A0, by omega, by go_num, rfl, by omega, HO', HB⟩
        case measure => simp [intOf]; omega
      · have dz : (z != 1) = true := by simpa using hz
        have HSN' : Hid (endsL (l.take (k + 1)) = endsL (l.take k) ++ [(k : Int)]) := by
          have := HSN.out
          rw [if_neg hz] at this
          exact this
        go_wp2_with (first
          | (at_builtin
             refine wpList_append_row _ rfl (.tmp 16) (.tmp 18) _ rfl w.heap.size 3 i0 _ 1 8 Try.underlying26 hi0 hz0 hz1 hz2 rfl (by omega) (.slice A0 no c0) no (ints (endsL (l.take k))) rfl (ow_alloc HO.out _) _ _ 1 1 [Value.int .i64 (k : Int)] rfl rfl (row_lit wr _ _) (ints_one1 _) (by simp only [maxLen]; omega) (by omega) (by simp; omega) ?_
             intro q5 w8 o5 g5 t5
             obtain ⟨A8, c8, rfl⟩ := ow_slice (m := no + 1) o5 rfl
             rw [← ints_snoc, ← HSN'.out] at o5
             have HB8 : Hid (Below w.heap.size w w8) := (HB.out.alloc hbr _).grown g5 (by simp; omega) (fun g hg => own_base HO.out g hg)
             have HO8 := Lib.hid o5
             clear o5 g5 t5))
        go_roundw
        case rel => exact ⟨k + 1, no + 1, c8, A8, by omega, by go_num, rfl, by omega, HO8, HB8⟩
        case measure => simp [intOf]; omega
    · rw [List.take_of_length_le (by rw [HNN.out]; omega)] at HO
      have HBW := Lib.hid (HBF.out.trans (HB.out.mono HBF.out.size))
      go_wp2
      go_ret
      obtain ⟨r1, r2, r3⟩ := ow_row HO.out
      have hle := HO.out.1
      rw [ints_len, Nat.mul_one] at hle
      exact ⟨A0, c0, by rw [hle]; rfl, by rw [hle]; exact r2, r3, r1, HBW.out⟩
set_option maxRecDepth 100000 in
set_option maxHeartbeats 2000000 in
theorem bounds_any (x : PA) (p : PR) (y : TA) (t : BT) (At : Option Addr) (ct : Nat) (text : List Int) (w : World) (h : PrAt w w.heap.size x p) (hsp : p.spans.length ≤ 100000) (hY : TabAt w w.heap.size y t) (hsm : t.cls.length ≤ 1000 ∧ t.act.length ≤ 1000) (hT : Row w w.heap.size At (ints text)) (hll : text.length ≤ 10000) :
    Calls Try.prog 64 #[x.val p, y.val t, .slice At text.length ct] w (RetI w (bndL p t text)) := by
  have CA := Lib.hid (fun (u : World) (hu : Below w.heap.size w u) => actionsS_any x p y t At ct text u (h.below hu).lt hsp (hY.below hu).lt hsm (hT.below hu).lt hll)
  unfold PA.val at CA ⊢
  unfold TA.val at CA ⊢
  unfold RetI at CA
  obtain ⟨w1, hw1, HB1, HK1⟩ := boxV w 25 #[.slice x.n p.names.length x.cn, .slice x.s p.spans.length x.cs]
  obtain ⟨w2, hw2, HB2', HK2'⟩ := boxT w1 31 y t
  have HB2 := Lib.hid (HB1.out.trans (HB2'.out.mono HB1.out.size))
  have HK2 := Lib.hid (HK1.out.after HB2'.out)
  have hs1 : w1.heap.size = w.heap.size + 1 := by rw [hw1]; simp
  obtain ⟨g, hg⟩ : ∃ g, g = w1.heap.size := ⟨_, rfl⟩
  rw [← hg] at HK2'
  have hgw : g = w.heap.size + 1 := by omega
  obtain ⟨q0, q1, ql⟩ := blk2 HK2.out
  obtain ⟨r0, r1, r2, r3, r4, r5, rl⟩ := tab6 HK2'.out
  obtain ⟨n, hn⟩ : ∃ n, text.length = n := ⟨_, rfl⟩
  have hac := acV_len p t text
  rw [hn] at CA hll hac ⊢
  obtain ⟨N, hN⟩ : ∃ n, (acV p t text).length = n := ⟨_, rfl⟩
  rw [hN] at CA hac
  have HNN := Lib.hid hN
  have HE := Lib.hid (bnd_eq p t text)
  clear h hY hT hn hN
  obtain ⟨i0, hi0, hz0, hz1, hz2⟩ := info_parts in_info31
  go_enter Try.func64, Try.ntmps64
  go_upto_region 1 with fail
  rw [← hw1, ← hw2, ← hgw]
  clear hw1 hw2 hs1 hg hgw
  go_wp2_with fail
  refine (CA.out w2 HB2.out).mono ?_
  rintro e w3 ⟨A3, c3, rfl, g1, g2, hr3, hb3⟩
  have HBF := Lib.hid (HB2.out.trans (hb3.mono HB2.out.size))
  have HRL := Lib.hid hr3
  clear hr3 hb3 g1 g2 q0 q1 ql r0 r1 r2 r3 r4 r5 rl
  go_wp2
  go_loopw [7, 15] (fun vo i wr => ∃ (k no c0 : Nat) (A0 : Option Addr), k ≤ N ∧ i = .int .i64 (k : Int) ∧ vo = .slice A0 no c0 ∧ no ≤ k ∧ Hid (wr.ownsRow w3.heap.size 3 1 (.slice A0 no c0) no (ints (endsL ((acV p t text).take k)))) ∧ Hid (Below w3.heap.size w3 wr)) (fun _ i _ => N - (intOf i).toNat)
  case atStart => exact ⟨0, 0, 0, none, by omega, rfl, rfl, by omega, own_nil _, Below.refl _ _⟩
  case round =>
    obtain ⟨k, no, c0, A0, hk, rfl, rfl, hno, HO, HB⟩ := hrel
    have hbr := HB.out.size
    by_cases hkn : k < N
    · obtain ⟨b, o, z, rfl, hb, hx, cc⟩ := (HRL.out.below HB.out).at_int (k := k) (by rw [HNN.out]; exact hkn)
      have hbl : b < wr.heap.size := by omega
      have HSN := Lib.hid (ends_snoc hx.out)
      by_cases hz : z = 1
      · have HO' : Hid (wr.ownsRow w3.heap.size 3 1 (.slice A0 no c0) no (ints (endsL ((acV p t text).take (k + 1))))) := by
          have := HSN.out
          rw [if_pos hz, List.append_nil] at this
          rw [this]
          exact HO.out
        subst hz
        go_wp2
        go_roundw
        case rel => exact ⟨k + 1, no, c0, A0, by omega, by go_num, rfl, by omega, HO', HB⟩
        case measure => simp [intOf]; omega
      · have dz : (z != 1) = true := by simpa using hz
        have HSN' : Hid (endsL ((acV p t text).take (k + 1)) = endsL ((acV p t text).take k) ++ [(k : Int)]) := by
          have := HSN.out
          rw [if_neg hz] at this
          exact this
        go_wp2_with (first
          | (at_builtin
             refine wpList_append_row _ rfl (.tmp 22) (.tmp 24) _ rfl w3.heap.size 3 i0 _ 1 8 Try.underlying26 hi0 hz0 hz1 hz2 rfl (by omega) (.slice A0 no c0) no (ints (endsL ((acV p t text).take k))) rfl (ow_alloc HO.out _) _ _ 1 1 [Value.int .i64 (k : Int)] rfl rfl (row_lit wr _ _) (ints_one1 _) (by simp only [maxLen]; omega) (by omega) (by simp; omega) ?_
             intro q5 w8 o5 g5 t5
             obtain ⟨A8, c8, rfl⟩ := ow_slice (m := no + 1) o5 rfl
             rw [← ints_snoc, ← HSN'.out] at o5
             have HB8 : Hid (Below w3.heap.size w3 w8) := (HB.out.alloc hbr _).grown g5 (by simp; omega) (fun g hg => own_base HO.out g hg)
             have HO8 := Lib.hid o5
             clear o5 g5 t5))
        go_roundw
        case rel => exact ⟨k + 1, no + 1, c8, A8, by omega, by go_num, rfl, by omega, HO8, HB8⟩
        case measure => simp [intOf]; omega
    · rw [List.take_of_length_le (by rw [HNN.out]; omega)] at HO
      have HBW := Lib.hid (HBF.out.trans (HB.out.mono HBF.out.size))
      go_wp2
      go_ret
      obtain ⟨r1, r2, r3⟩ := ow_row HO.out
      have hle := HO.out.1
      rw [ints_len, Nat.mul_one] at hle
      exact ⟨A0, c0, by rw [HE.out, hle]; rfl, by rw [HE.out, hle]; exact r2, r3, by rw [HE.out]; exact r1, HBW.out⟩
set_option maxRecDepth 100000 in
set_option maxHeartbeats 2000000 in
theorem rbounds_any (x : PA) (p : PR) (y : TA) (t : BT) (At : Option Addr) (ct : Nat) (text : List Int) (w : World) (h : PrAt w w.heap.size x p) (hsp : p.spans.length ≤ 100000) (hY : TabAt w w.heap.size y t) (hsm : t.cls.length ≤ 1000 ∧ t.act.length ≤ 1000) (hT : Row w w.heap.size At (ints text)) (hll : text.length ≤ 10000) :
    Calls Try.prog 27 #[x.val p, y.val t, .slice At text.length ct] w (RetI w (bndL p t text)) := by
  have CA := Lib.hid (fun (u : World) (hu : Below w.heap.size w u) => ractionsS_any x p y t At ct text u (h.below hu).lt hsp (hY.below hu).lt hsm (hT.below hu).lt hll)
  unfold PA.val at CA ⊢
  unfold TA.val at CA ⊢
  unfold RetI at CA
  obtain ⟨w1, hw1, HB1, HK1⟩ := boxV w 25 #[.slice x.n p.names.length x.cn, .slice x.s p.spans.length x.cs]
  obtain ⟨w2, hw2, HB2', HK2'⟩ := boxT w1 31 y t
  have HB2 := Lib.hid (HB1.out.trans (HB2'.out.mono HB1.out.size))
  have HK2 := Lib.hid (HK1.out.after HB2'.out)
  have hs1 : w1.heap.size = w.heap.size + 1 := by rw [hw1]; simp
  obtain ⟨g, hg⟩ : ∃ g, g = w1.heap.size := ⟨_, rfl⟩
  rw [← hg] at HK2'
  have hgw : g = w.heap.size + 1 := by omega
  obtain ⟨q0, q1, ql⟩ := blk2 HK2.out
  obtain ⟨r0, r1, r2, r3, r4, r5, rl⟩ := tab6 HK2'.out
  obtain ⟨n, hn⟩ : ∃ n, text.length = n := ⟨_, rfl⟩
  have hac := acV_len p t text
  have CE := fun (u : World) (A : Option Addr) (c : Nat) (hr : Row u u.heap.size A (ints (acV p t text))) => ends30_any A c (acV p t text) u hr (by omega)
  unfold RetI at CE
  rw [hn] at CA hll hac ⊢
  obtain ⟨N, hN⟩ : ∃ n, (acV p t text).length = n := ⟨_, rfl⟩
  rw [hN] at CA hac CE
  have HE := Lib.hid (bnd_eq p t text)
  replace CE := Lib.hid CE
  clear h hY hT hn hN
  go_enter Try.func27, Try.ntmps27
  go_upto_region 1 with fail
  rw [← hw1, ← hw2, ← hgw]
  clear hw1 hw2 hs1 hg hgw
  go_wp2_with fail
  refine (CA.out w2 HB2.out).mono ?_
  rintro e w3 ⟨A3, c3, rfl, g1, g2, hr3, hb3⟩
  have HB3 := Lib.hid (HB2.out.trans (hb3.mono HB2.out.size))
  have HRL := Lib.hid hr3
  clear hr3 hb3 g1 g2 q0 q1 ql r0 r1 r2 r3 r4 r5 rl
  go_wp2_with fail
  refine (CE.out w3 A3 c3 HRL.out).mono ?_
  rintro e w4 ⟨A4, c4, rfl, g1, g2, hr4, hb4⟩
  have HB4 := Lib.hid (HB3.out.trans (hb4.mono HB3.out.size))
  have HR4 := Lib.hid hr4
  clear hr4 hb4
  go_wp2
  go_ret
  rw [HE.out]
  exact ⟨A4, c4, rfl, g1, g2, HR4.out, HB4.out⟩
end Go.Proofs.Ytkpblieanejmeaa
