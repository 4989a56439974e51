/-
  ref51.Written, ref51.Trace, ref51.Apply.
-/
import Derived.Test.YtledbiabdiijhaaTu2
import Derived.Test.YtledbiabdiijhaaTt9
namespace Go.Proofs.Ytledbiabdiijhaa
open Go.RowKit Go.UtYtledbiabdiijhaa
set_option maxRecDepth 100000 in
set_option maxHeartbeats 2000000 in
theorem written_any (A At : Option Addr) (c ct : Nat) (D : List TR) (text : List Int) (p : Nat) (i m : Int) (w : World) (hR : RulesAt w w.heap.size A D) (hok : ∀ r ∈ D, chk1 r = 0) (_hd : D.length ≤ 1000000) (hT : Row w w.heap.size At (ints text)) (hp : p < text.length) (hl : text.length ≤ 100000000)
    (hst : IsStep D text p i m) (R : List Int) (hRes : writS D text p i = R) :
    Calls Try.prog 26 #[.slice A D.length c, .slice At text.length ct, .int .i64 (p : Int), .int .i64 i] w (RetI w R) := by
  have HR := Lib.hid hR
  have HT := Lib.hid hT
  have HOK := Lib.hid hok
  have HRS := Lib.hid hRes
  obtain ⟨dn, hdn⟩ : ∃ n, D.length = n := ⟨_, rfl⟩
  obtain ⟨nt, hnt⟩ : ∃ n, text.length = n := ⟨_, rfl⟩
  rw [hdn] at _hd
  rw [hnt] at hl hp
  rw [hdn, hnt]
  have HDN := Lib.hid hdn
  have HNT := Lib.hid hnt
  clear hR hT hok hRes hdn hnt
  obtain ⟨i0, hi0, hz0, hz1, hz2⟩ := info_parts in_info
  rcases hst with ⟨rfl, rfl, _⟩ | ⟨k, r, rfl, hk, rfl, happ, _⟩
  · obtain ⟨bt, ot, x, rfl, hbt, hxt, cct⟩ := HT.out.at_int (k := p) (by rw [HNT.out]; exact hp)
    have HX : Hid (R = [x]) := by
      show _ = _
      rw [← HRS.out, writS_neg D hxt.out]
    go_enter Try.func26, Try.ntmps26
    go_wp2
    go_ret
    rw [HX.out]
    exact ⟨_, _, rfl, by simp, by simp [maxLen], (row_lit w _ _).lt, (Below.refl _ _).alloc (Nat.le_refl _) _⟩
  · have hkd : k < dn := by
      have := (List.getElem?_eq_some_iff.1 hk).1
      rw [HDN.out] at this
      exact this
    obtain ⟨hsz, hso, hro⟩ := chk1_ok (HOK.out r (List.mem_of_getElem? hk))
    have hfit := ((hits_append.1 happ.1).1).1
    rw [HNT.out] at hfit
    have hr16 := hsz.2.2.2.2
    have HX : Hid (r.res.map (pieceW text p) = R) := by
      show _ = _
      rw [← HRS.out, writS_rule hk]
    obtain ⟨br, or, v0, v1, v2, v3, r', rfl, hbr, hxr, HRA, c0', c1', c2', c3'⟩ := HR.out.at_ (k := k) (by rw [HDN.out]; exact hkd)
    obtain rfl : r' = r := by
      have := hxr.out
      rw [hk] at this
      injection this with this
      exact this.symm
    obtain ⟨Ab, cb, Am, cm, Aa, ca, Ar, cr, hvs, ⟨_, _, _, rr⟩, _, _, _, r1, r2⟩ := HRA.out
    simp only [List.cons.injEq, and_true] at hvs
    obtain ⟨rfl, rfl, rfl, rfl⟩ := hvs
    have RR := Lib.hid rr
    have HRO := Lib.hid hro
    obtain ⟨nr, hnr⟩ : ∃ n, r'.res.length = n := ⟨_, rfl⟩
    obtain ⟨nm, hnm⟩ : ∃ n, r'.mat.length = n := ⟨_, rfl⟩
    rw [hnr] at c3' r1 hr16
    rw [hnm] at hfit c1'
    unfold maxLen at r2
    have HNR := Lib.hid hnr
    have HNM := Lib.hid hnm
    clear rr hro hso hsz hnr hnm HRA hk hxr happ
    go_enter Try.func26, Try.ntmps26
    go_wp2
    go_loopw [9, 10] (fun res j wr => ∃ (q n1 c1 : Nat) (A1 : Option Addr), q ≤ nr ∧ j = .int .i64 (q : Int) ∧ res = .slice A1 n1 c1 ∧ n1 ≤ q ∧ Hid (wr.ownsRow w.heap.size 3 1 (.slice A1 n1 c1) n1 (ints ((r'.res.take q).map (pieceW text p)))) ∧ Hid (Below w.heap.size w wr)) (fun _ j _ => nr - (intOf j).toNat)
    case atStart => exact ⟨0, 0, 0, none, by omega, rfl, rfl, by omega, own_nil _, Below.refl _ _⟩
    case round =>
      obtain ⟨q, n1, c1, A1, hq, rfl, rfl, hn1, HOq, HBq⟩ := hrel
      have hbq := HBq.out.size
      have d3 := (HBq.out.cell (p := ⟨br, or + k * 4 + 3, none⟩) hbr).trans c3'
      by_cases hqn : q < nr
      · obtain ⟨bp, op, x', y', rfl, hbp, hxp, cp0, cp1⟩ := at_pr (RR.out.below HBq.out) (k := q) (by rw [HNR.out]; exact hqn)
        have hpo := HRO.out (x', y') (List.mem_of_getElem? hxp.out)
        have HMT := Lib.hid (map_take (f := pieceW text p) hxp.out)
        go_upto_region 8 with fail
        obtain ⟨wb, hwb, HBb, HKb⟩ : ∃ v, v = wr.alloc (.cells #[.int .i64 x', .int .i64 y'] 51) ∧ Hid (Below wr.heap.size wr v) ∧ Hid (Blk v wr.heap.size 51 #[.int .i64 x', .int .i64 y']) := ⟨_, rfl, (Below.refl _ _).alloc (Nat.le_refl _) _, Blk.new _ _ _⟩
        rw [← hwb]
        clear hwb
        have HOb := Lib.hid (ow_below HOq.out HBb.out)
        have HBB : Hid (Below w.heap.size w wb) := HBq.out.trans (HBb.out.mono hbq)
        have hbb := HBB.out.size
        have f0 := HKb.out.cell 0
        have f1 := HKb.out.cell 1
        have f2 := HKb.out.lt
        simp at f0 f1
        clear cp0 cp1
        by_cases hy : y' = 0
        · subst hy
          rw [pieceW_code] at HMT
          go_wp2_with (first
            | (at_builtin
               refine wpList_append_row _ rfl (.tmp 51) (.tmp 54) _ rfl w.heap.size 3 i0 _ 1 8 Try.underlying23 hi0 hz0 hz1 hz2 rfl (by omega) (.slice A1 n1 c1) n1 (ints ((r'.res.take q).map (pieceW text p))) rfl (ow_alloc HOb.out _) _ _ 1 1 [Value.int .i64 x'] rfl rfl (row_lit wb _ _) (ints_one1 _) (by simp only [maxLen]; omega) (by omega) (by simp; omega) ?_
               intro q4 w4 o4 g4 t4
               obtain ⟨A4, c4, rfl⟩ := ow_slice (m := n1 + 1) o4 rfl
               rw [← ints_snoc, ← HMT.out] at o4
               have HB4 : Hid (Below w.heap.size w w4) := (HBB.out.alloc hbb _).grown g4 (by simp; omega) (fun g hg => own_base HOb.out g hg)
               have HO4 := Lib.hid o4
               clear o4 g4 t4))
          go_roundw
          case rel => exact ⟨q + 1, n1 + 1, c4, A4, by omega, by go_num, rfl, by omega, HO4, HB4⟩
          case measure => simp [intOf]; omega
        · have hyr : 1 ≤ y' ∧ y' ≤ (nm : Int) := by
            rcases hpo with h | h
            · exact absurd h.1 hy
            · exact ⟨h.2.1, by have := h.2.2; rw [HNM.out] at this; exact this⟩
          obtain ⟨hy1, hy2⟩ := hyr
          obtain ⟨bt, ot, z, rfl, hbt, hz5, c5⟩ := (HT.out.below HBB.out).at_int (k := p + y'.toNat - 1) (by rw [HNT.out]; omega)
          rw [pieceW_copy hy hz5.out] at HMT
          have k1 : IntKind.i64.wrap ((p : Int) + y') = (p : Int) + y' := IntWalk.i64_in _ (by omega)
          have k2 : IntKind.i64.wrap ((p : Int) + y' - 1) = (p : Int) + y' - 1 := IntWalk.i64_in _ (by omega)
          have k3 : (0 : Int) ≤ (p : Int) + y' - 1 := by omega
          have k4 : (p : Int) + y' - 1 < (nt : Int) := by omega
          have k5 : ((p : Int) + y' - 1).toNat = p + y'.toNat - 1 := by omega
          have hbt3 : bt < wb.heap.size := by omega
          clear hpo
          go_wp2_with (first
            | (at_builtin
               refine wpList_append_row _ rfl (.tmp 40) (.tmp 49) _ rfl w.heap.size 3 i0 _ 1 8 Try.underlying23 hi0 hz0 hz1 hz2 rfl (by omega) (.slice A1 n1 c1) n1 (ints ((r'.res.take q).map (pieceW text p))) rfl (ow_alloc HOb.out _) _ _ 1 1 [Value.int .i64 z] rfl rfl (row_lit wb _ _) (ints_one1 _) (by simp only [maxLen]; omega) (by omega) (by simp; omega) ?_
               intro q4 w4 o4 g4 t4
               obtain ⟨A4, c4, rfl⟩ := ow_slice (m := n1 + 1) o4 rfl
               rw [← ints_snoc, ← HMT.out] at o4
               have HB4 : Hid (Below w.heap.size w w4) := (HBB.out.alloc hbb _).grown g4 (by simp; omega) (fun g hg => own_base HOb.out g hg)
               have HO4 := Lib.hid o4
               clear o4 g4 t4))
          go_roundw
          case rel => exact ⟨q + 1, n1 + 1, c4, A4, by omega, by go_num, rfl, by omega, HO4, HB4⟩
          case measure => simp [intOf]; omega
      · obtain rfl : nr = q := by omega
        rw [List.take_of_length_le (by rw [HNR.out]; exact Nat.le_refl _), HX.out] at HOq
        go_wp2
        go_ret
        obtain ⟨hr, hc1, hc2⟩ := ow_row HOq.out
        have hle := HOq.out.1
        rw [ints_len, Nat.mul_one] at hle
        exact ⟨A1, c1, by rw [hle]; rfl, by omega, hc2, hr, HBq.out⟩
end Go.Proofs.Ytledbiabdiijhaa
