/-
  ref30.Index, Named, Classes.
-/
import Derived.Test.YtkpblieanejmeaaBp5
namespace Go.UtYtkpblieanejmeaa
theorem idxL_hit {l : List Nm} {s : Nm} {k : Nat} (h : ∀ u ∈ l.take k, u ≠ s) (hk : l[k]? = some s) : idxL l s = (k : Int) := by
  obtain ⟨h1, h2⟩ := List.getElem?_eq_some_iff.1 hk
  have hf : l.findIdx? (· == s) = some k := by
    rw [List.findIdx?_eq_some_iff_getElem]
    refine ⟨h1, by simp [h2], fun j hj => ?_⟩
    have := h l[j] (List.mem_of_getElem? (i := j) (by rw [List.getElem?_take, if_pos hj, List.getElem?_eq_getElem (by omega)]))
    simpa using this
  unfold idxL
  rw [hf]
  rfl
theorem idxL_miss {l : List Nm} {s : Nm} (h : ∀ u ∈ l, u ≠ s) : idxL l s = 0 := by
  have hf : l.findIdx? (· == s) = none := by
    rw [List.findIdx?_eq_none_iff]
    intro u hu
    simpa using h u hu
  unfold idxL
  rw [hf]
  rfl
open Classical in
noncomputable def clsV (p : PR) (t : BT) (text : List Int) : List Int := if validT t then clsL p t text else []
end Go.UtYtkpblieanejmeaa
namespace Go.Proofs.Ytkpblieanejmeaa
open Go.RowKit Go.UtYtkpblieanejmeaa
attribute [local go_sem high] str_eql str_neq
set_option maxRecDepth 100000 in
set_option maxHeartbeats 1000000 in
theorem index30_any (A : Option Addr) (c : Nat) (l : List Nm) (s : Nm) (w : World) (h : Row w w.heap.size A (strs l)) (hl : l.length ≤ 1000) :
    Calls Try.prog 92 #[.slice A l.length c, .string ⟨s.toArray⟩] w fun e w' => e = .returned (.int .i64 (idxL l s)) ∧ w' = w := by
  have HR := Lib.hid h
  obtain ⟨n, hn⟩ : ∃ n, l.length = n := ⟨_, rfl⟩
  have HN := Lib.hid hn
  rw [hn] at hl ⊢
  obtain ⟨r, hr⟩ : ∃ r, idxL l s = r := ⟨_, rfl⟩
  have HRR := Lib.hid hr
  rw [hr]
  clear h hn hr
  go_enter Try.func92, Try.ntmps92
  go_wp2
  go_loopw [5] (fun i wr => ∃ k : Nat, k ≤ n ∧ i = .int .i64 (k : Int) ∧ Hid (∀ u ∈ l.take k, u ≠ s) ∧ wr = w) (fun i _ => n - (intOf i).toNat)
  case atStart => exact ⟨0, by omega, rfl, fun u hu => by simp at hu, rfl⟩
  case round =>
    obtain ⟨k, hk, rfl, HK, hw⟩ := hrel
    subst wr
    by_cases hkn : k < n
    · obtain ⟨b, o, u, rfl, hb, hx, cc⟩ := HR.out.at_str (k := k) (by rw [HN.out]; exact hkn)
      by_cases hus : u = s
      · subst hus
        have HF : Hid (r = (k : Int)) := HRR.out.symm.trans (idxL_hit HK.out hx.out)
        go_wp2
        go_ret
        exact ⟨ret_int HF.out.symm, rfl⟩
      · have dd : decide (u = s) = false := decide_eq_false hus
        have HK' := Lib.hid (all_snoc (P := fun u => u ≠ s) HK.out hx.out hus)
        go_wp2
        go_roundw
        case rel => exact ⟨k + 1, by omega, by go_num, HK', by trivial⟩
        case measure => simp [intOf]; omega
    · have HF : Hid (r = 0) := HRR.out.symm.trans (idxL_miss (all_take HK.out (by rw [HN.out]; omega)))
      go_wp2
      go_ret
      exact ⟨ret_int HF.out.symm, rfl⟩
theorem map_snoc {α β : Type} {f : α → β} {l : List α} {k : Nat} {x : α} (h : l[k]? = some x) : (l.take (k + 1)).map f = (l.take k).map f ++ [f x] := by
  obtain ⟨h1, h2⟩ := List.getElem?_eq_some_iff.1 h
  rw [List.take_succ_eq_append_getElem h1, h2]
  simp
set_option maxRecDepth 100000 in
set_option maxHeartbeats 2000000 in
theorem named30_any (x : PA) (p : PR) (A : Option Addr) (c : Nat) (l : List Nm) (At : Option Addr) (ct : Nat) (text : List Int) (w : World) (h : PrAt w w.heap.size x p) (hsp : p.spans.length ≤ 100000) (hA : Row w w.heap.size A (strs l)) (hl : l.length ≤ 1000) (hT : Row w w.heap.size At (ints text)) (hll : text.length ≤ 100000) :
    Calls Try.prog 85 #[x.val p, .slice A l.length c, .slice At text.length ct] w (RetI w (text.map fun c => idxL l (nameV p c))) := by
  have CN := Lib.hid (fun (u : World) (hu : Below w.heap.size w u) (z : Int) => name10_any x p z u (h.below hu).lt hsp)
  have CI := fun (u : World) (hu : Below w.heap.size w u) (s : Nm) => index30_any A c l s u (hA.below hu).lt hl
  unfold PA.val at CN ⊢
  obtain ⟨nl, hnl⟩ : ∃ n, l.length = n := ⟨_, rfl⟩
  rw [hnl] at CI ⊢
  replace CI := Lib.hid CI
  have HT := Lib.hid hT
  obtain ⟨n, hn⟩ : ∃ n, text.length = n := ⟨_, rfl⟩
  have HN := Lib.hid hn
  rw [hn] at hll ⊢
  obtain ⟨w1, hw1, HB1, HK1⟩ := boxV w 25 #[.slice x.n p.names.length x.cn, .slice x.s p.spans.length x.cs]
  have hbs1 := HB1.out.size
  clear h hA hT hn hnl
  obtain ⟨i0, hi0, hz0, hz1, hz2⟩ := info_parts in_info31
  go_enter Try.func85, Try.ntmps85
  go_upto_region 1 with fail
  rw [← hw1]
  clear hw1
  go_wp2
  go_loopw [7, 8] (fun vo i wr => ∃ (k no c0 : Nat) (A0 : Option Addr) (out : List Int), k ≤ n ∧ i = .int .i64 (k : Int) ∧ vo = .slice A0 no c0 ∧ no ≤ k ∧ Hid (out = (text.take k).map fun c => idxL l (nameV p c)) ∧ Hid (wr.ownsRow w1.heap.size 3 1 (.slice A0 no c0) no (ints out)) ∧ Hid (Below w1.heap.size w1 wr)) (fun _ i _ => n - (intOf i).toNat)
  case atStart => exact ⟨0, 0, 0, none, [], by omega, rfl, rfl, by omega, by show _ = _; simp, own_nil _, Below.refl _ _⟩
  case round =>
    obtain ⟨k, no, c0, A0, out, hk, rfl, rfl, hno, HOU, HO, HB⟩ := hrel
    have hbr := HB.out.size
    have HBw := Lib.hid (HB1.out.trans (HB.out.mono hbs1))
    have HKr := Lib.hid (HK1.out.after HB.out)
    by_cases hkn : k < n
    · obtain ⟨b, o, y, rfl, hb, hx, cc⟩ := (HT.out.below HBw.out).at_int (k := k) (by rw [HN.out]; exact hkn)
      have hbl : b < wr.heap.size := by omega
      obtain ⟨d, hd⟩ : ∃ d, idxL l (nameV p y) = d := ⟨_, rfl⟩
      have HOU' : Hid (out ++ [d] = (text.take (k + 1)).map fun c => idxL l (nameV p c)) := by
        show _ = _
        rw [map_snoc hx.out, HOU.out, hd]
      obtain ⟨nm, hnm⟩ : ∃ nm, nameV p y = nm := ⟨_, rfl⟩
      have CN1 := fun (u : World) (hu : Below w.heap.size w u) => CN.out u hu y
      have CI1 := fun (u : World) (hu : Below w.heap.size w u) => CI.out u hu nm
      rw [hnm] at CN1 hd
      rw [hd] at CI1
      replace CN1 := Lib.hid CN1
      replace CI1 := Lib.hid CI1
      clear hd hnm
      go_wp2
      refine wp_region_tree (fun w' => Blk w' w.heap.size 25 #[.slice x.n p.names.length x.cn, .slice x.s p.spans.length x.cs] ∧ w'.cell? ⟨b, o + k, none⟩ = some (.int .i64 y)) (.float 0 (.float 1 (.float 2 (.float 3 (.float 4 (.float 5 (.float 6 (.one 7 (.one 8 (.one 9 (.one 10 (.float 11 .done)))))))))))) (by kernel_rfl) (by kernel_rfl) (fun _ _ d _ _ h => by cases d <;> exact h) ⟨HKr.out.drew, cc⟩ ?_
      repeat (first
        | (refine wpTr_fskip (by simp only [List.getElem?_toArray, List.getElem?_cons_zero, List.getElem?_cons_succ]; rfl) (by rfl) ?_
           simp only [Act.put, List.setIfInBounds_toArray, List.set_cons_zero, List.set_cons_succ])
        | (refine wpTr_float (v := ?_) (by simp only [List.getElem?_toArray, List.getElem?_cons_zero, List.getElem?_cons_succ]; rfl) (by rfl) (fun w' hS => ?_) ?_
           rotate_left
           ((obtain ⟨hSK, e3'⟩ := hS; obtain ⟨e0', e1', el'⟩ := blk2 hSK); go_simp; first | done | rfl)
           simp only [Act.put, List.setIfInBounds_toArray, List.set_cons_zero, List.set_cons_succ]))
      refine wpTr_one ?_
      refine stepTr_K (by simp only [List.getElem?_toArray, List.getElem?_cons_zero, List.getElem?_cons_succ]; rfl) (by rfl) (fun K hK => ?_)
      go_simp
      refine (CN1.out wr.drew HBw.out.drew).mono ?_
      rintro e w2 ⟨rfl, hb2⟩
      have HBL2 : Hid (Below wr.heap.size wr w2) := (Below.refl _ _).drew.trans hb2
      have HB2 := Lib.hid (HB.out.trans (HBL2.out.mono hbr))
      have HBw2 := Lib.hid (HB1.out.trans (HB2.out.mono hbs1))
      have HK2 := Lib.hid (HKr.out.after HBL2.out)
      have cc2 := (HBL2.out.cell (p := ⟨b, o + k, none⟩) hbl).trans cc
      have HO2 := Lib.hid (ow_below HO.out HBL2.out)
      have hbs2 := HB2.out.size
      refine hK.out _ _ ⟨HK2.out, cc2⟩ ?_
      clear hK K hb2
      try simp only [Act.put, List.setIfInBounds_toArray, List.set_cons_zero, List.set_cons_succ]
      refine wpTr_one ?_
      refine stepTr_K (by simp only [List.getElem?_toArray, List.getElem?_cons_zero, List.getElem?_cons_succ]; rfl) (by rfl) (fun K hK => ?_)
      go_simp
      refine (CI1.out w2 HBw2.out).mono ?_
      rintro e w' ⟨rfl, hw⟩
      subst w'
      refine hK.out _ _ ⟨HK2.out, cc2⟩ ?_
      clear hK K
      try simp only [Act.put, List.setIfInBounds_toArray, List.set_cons_zero, List.set_cons_succ]
      refine wpTr_one ?_
      refine stepTr_K (by simp only [List.getElem?_toArray, List.getElem?_cons_zero, List.getElem?_cons_succ]; rfl) (by rfl) (fun K hK => ?_)
      go_simp
      obtain ⟨wl, hwl, HBl, HKL⟩ : ∃ v, v = w2.alloc (.cells #[.int .i64 d] 3) ∧ Hid (Below w2.heap.size w2 v) ∧ Hid (Row v (w2.heap.size + 1) (some ⟨w2.heap.size, 0, none⟩) [.int .i64 d]) := ⟨_, rfl, (Below.refl _ _).alloc (Nat.le_refl _) _, row_lit w2 _ _⟩
      rw [← hwl]
      obtain ⟨lb, hlb⟩ : ∃ y, y = w2.heap.size := ⟨_, rfl⟩
      rw [← hlb] at HKL ⊢
      clear hwl hlb
      have HK3 := Lib.hid (HK2.out.after HBl.out)
      have hb2l : b < w2.heap.size := by have := HBL2.out.size; omega
      have cc3 := (HBl.out.cell (p := ⟨b, o + k, none⟩) hb2l).trans cc2
      have HO3 := Lib.hid (ow_below HO2.out HBl.out)
      have HB3 := Lib.hid (HB2.out.trans (HBl.out.mono hbs2))
      have hbs3 := HB3.out.size
      refine hK.out _ _ ⟨HK3.out, cc3⟩ ?_
      clear hK K
      try simp only [Act.put, List.setIfInBounds_toArray, List.set_cons_zero, List.set_cons_succ]
      refine wpTr_one ?_
      refine stepTr_K (by simp only [List.getElem?_toArray, List.getElem?_cons_zero, List.getElem?_cons_succ]; rfl) (by rfl) (fun K hK => ?_)
      refine wp_append_row _ (.tmp 15) (.tmp 24) _ rfl w1.heap.size 3 i0 _ 1 8 Try.underlying26 hi0 hz0 hz1 hz2 rfl (by omega) (.slice A0 no c0) no (ints out) rfl HO3.out _ _ 1 1 [.int .i64 d] rfl rfl HKL.out (ints_one1 _) (by simp only [maxLen]; omega) (by omega) hbs3 ?_
      intro q6 w6 o6 g6 t6
      obtain ⟨A6, c6, rfl⟩ := ow_slice (m := no + 1) o6 rfl
      rw [← ints_snoc] at o6
      have HO6 := Lib.hid o6
      have HB6 : Hid (Below w1.heap.size w1 w6) := HB3.out.grown g6 hbs3 (fun z hz => own_base HO3.out z hz)
      have HK6 := Lib.hid (HK1.out.after HB6.out)
      have HBw6 := Lib.hid (HB1.out.trans (HB6.out.mono hbs1))
      have cc6 : w6.cell? ⟨b, o + k, none⟩ = some (.int .i64 y) := by
        obtain ⟨b', o', y', e1, _, hx', cc'⟩ := (HT.out.below HBw6.out).at_int (k := k) (by rw [HN.out]; exact hkn)
        injection e1 with e1
        injection e1 with e1 e2
        subst e1 e2
        have := hx'.out
        rw [hx.out] at this
        injection this with this
        rw [cc', this]
      clear o6 g6 t6
      refine hK.out _ _ ⟨HK6.out, cc6⟩ ?_
      clear hK K
      try simp only [Act.put, List.setIfInBounds_toArray, List.set_cons_zero, List.set_cons_succ]
      repeat (first
        | (refine wpTr_fskip (by simp only [List.getElem?_toArray, List.getElem?_cons_zero, List.getElem?_cons_succ]; rfl) (by rfl) ?_
           simp only [Act.put, List.setIfInBounds_toArray, List.set_cons_zero, List.set_cons_succ])
        | (refine wpTr_float (v := ?_) (by simp only [List.getElem?_toArray, List.getElem?_cons_zero, List.getElem?_cons_succ]; rfl) (by rfl) (fun w' hS => ?_) ?_
           rotate_left
           ((skip); go_simp; first | done | rfl)
           simp only [Act.put, List.setIfInBounds_toArray, List.set_cons_zero, List.set_cons_succ]))
      refine wpTr_done ?_
      go_wp2
      go_roundw
      case rel => exact ⟨k + 1, no + 1, c6, A6, _, by omega, by go_num, rfl, by omega, HOU', HO6, HB6⟩
      case measure => simp [intOf]; omega
    · have HE : Hid (out = text.map fun c => idxL l (nameV p c)) := by
        show _ = _
        rw [HOU.out, List.take_of_length_le (by rw [HN.out]; omega)]
      rw [HE.out] at HO
      go_wp2
      go_ret
      obtain ⟨r1, r2, r3⟩ := ow_row HO.out
      have hle := HO.out.1
      rw [ints_len, Nat.mul_one] at hle
      exact ⟨A0, c0, by rw [hle]; rfl, by rw [hle]; exact r2, r3, r1, HBw.out⟩
set_option maxRecDepth 100000 in
set_option maxHeartbeats 2000000 in
theorem classes30_any (x : PA) (p : PR) (y : TA) (t : BT) (At : Option Addr) (ct : Nat) (text : List Int) (w : World) (h : PrAt w w.heap.size x p) (hsp : p.spans.length ≤ 100000) (hY : TabAt w w.heap.size y t) (hsm : t.cls.length ≤ 1000 ∧ t.act.length ≤ 1000) (hT : Row w w.heap.size At (ints text)) (hll : text.length ≤ 100000) :
    Calls Try.prog 75 #[x.val p, y.val t, .slice At text.length ct] w (RetI w (clsV p t text)) := by
  have CV := Lib.hid (fun (u : World) (hu : Below w.heap.size w u) (v : Bool) (hv : v = true ↔ validT t) => valid29_any y t u (hY.below hu).lt hsm v hv)
  have CN := Lib.hid (fun (u : World) (hu : Below w.heap.size w u) => named30_any x p y.c y.cc t.cls At ct text u (h.below hu).lt hsp (hY.1.1.1.below hu).lt hsm.1 (hT.below hu).lt hll)
  unfold PA.val at CN ⊢
  unfold TA.val at CV ⊢
  unfold RetI at CN
  obtain ⟨w1, hw1, HB1, HK1⟩ := boxV w 25 #[.slice x.n p.names.length x.cn, .slice x.s p.spans.length x.cs]
  obtain ⟨w2, hw2, HB2', HK2'⟩ := boxT w1 31 y t
  have HB2 := Lib.hid (HB1.out.trans (HB2'.out.mono HB1.out.size))
  have HK2 := Lib.hid (HK1.out.after HB2'.out)
  have hs1 : w1.heap.size = w.heap.size + 1 := by rw [hw1]; simp
  obtain ⟨g, hg⟩ : ∃ g, g = w1.heap.size := ⟨_, rfl⟩
  rw [← hg] at HK2'
  have hgw : g = w.heap.size + 1 := by omega
  obtain ⟨q0, q1, ql⟩ := blk2 HK2.out
  obtain ⟨r0, r1, r2, r3, r4, r5, rl⟩ := tab6 HK2'.out
  obtain ⟨n, hn⟩ : ∃ n, text.length = n := ⟨_, rfl⟩
  rw [hn] at CN hll ⊢
  obtain ⟨N, hN⟩ : ∃ N, (text.map fun c => idxL t.cls (nameV p c)).length = N := ⟨_, rfl⟩
  rw [hN] at CN
  have HNN := Lib.hid hN
  clear h hY hT hn hN
  go_enter Try.func75, Try.ntmps75
  go_upto_region 1 with fail
  rw [← hw1, ← hw2, ← hgw]
  clear hw1 hw2 hs1 hg hgw
  by_cases hv : validT t
  · have HC : Hid (clsV p t text = text.map fun c => idxL t.cls (nameV p c)) := by
      show _ = _
      unfold clsV
      rw [if_pos hv]
      rfl
    go_wp2_with fail
    refine (CV.out w2 HB2.out true ⟨fun _ => hv, fun _ => rfl⟩).mono ?_
    rintro e w3 ⟨rfl, hb3⟩
    have HB3 := Lib.hid (HB2.out.trans (hb3.mono HB2.out.size))
    have HK3 := Lib.hid (HK2.out.after hb3)
    have HK3' := Lib.hid (HK2'.out.after hb3)
    clear hb3 q0 q1 ql r0 r1 r2 r3 r4 r5 rl
    obtain ⟨q0, q1, ql⟩ := blk2 HK3.out
    obtain ⟨r0, r1, r2, r3, r4, r5, rl⟩ := tab6 HK3'.out
    go_wp2_with fail
    refine (CN.out w3 HB3.out).mono ?_
    rintro e w4 ⟨A4, c4, rfl, g1, g2, hr4, hb4⟩
    have HB4 := Lib.hid (HB3.out.trans (hb4.mono HB3.out.size))
    have HR4 := Lib.hid hr4
    clear hr4 hb4
    go_wp2
    go_ret
    rw [HC.out]
    exact ⟨A4, c4, by rw [HNN.out]; rfl, by rw [HNN.out]; exact g1, g2, HR4.out, HB4.out⟩
  · have HC : Hid (clsV p t text = []) := by
      show _ = _
      unfold clsV
      rw [if_neg hv]
    go_wp2_with fail
    refine (CV.out w2 HB2.out false ⟨fun h => (by cases h), fun h => absurd h hv⟩).mono ?_
    rintro e w3 ⟨rfl, hb3⟩
    have HB3 := Lib.hid (HB2.out.trans (hb3.mono HB2.out.size))
    clear hb3
    go_wp2
    go_ret
    rw [HC.out]
    exact ⟨none, 0, rfl, by simp, by simp [maxLen], Row.nil, HB3.out⟩
end Go.Proofs.Ytkpblieanejmeaa
