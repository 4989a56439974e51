/-
  transduce.Apply.
-/
import Derived.Test.YtledbiabdiijhaaTt6
import Derived.Test.YtledbiabdiijhaaApp
namespace Go.UtYtledbiabdiijhaa
open Go.RowKit
/-- what a piece writes -/
def pieceW (text : List Int) (p : Nat) (q : Int × Int) : Int := if q.2 = 0 then q.1 else text.getD (p + q.2.toNat - 1) 0
theorem writS_neg (rules : List TR) {text : List Int} {p : Nat} {x : Int} (h : text[p]? = some x) : writS rules text p (-1) = [x] := by
  unfold writS
  rw [if_pos (by omega), List.getD_eq_getElem?_getD, h]
  rfl
theorem writS_rule {rules : List TR} {text : List Int} {p k : Nat} {r : TR} (h : rules[k]? = some r) : writS rules text p (k : Int) = r.res.map (pieceW text p) := by
  unfold writS
  rw [if_neg (by omega), Int.toNat_natCast, h]
  rfl
theorem pieceW_code {text : List Int} {p : Nat} {x : Int} : pieceW text p (x, 0) = x := by simp [pieceW]
theorem pieceW_copy {text : List Int} {p : Nat} {x y z : Int} (h : y ≠ 0) (hz : text[p + y.toNat - 1]? = some z) : pieceW text p (x, y) = z := by
  unfold pieceW
  rw [if_neg h, List.getD_eq_getElem?_getD, hz]
  rfl
theorem map_take {α β : Type} {f : α → β} {l : List α} {k : Nat} {x : α} (h : l[k]? = some x) : (l.take (k + 1)).map f = (l.take k).map f ++ [f x] := by
  obtain ⟨hk, e⟩ := List.getElem?_eq_some_iff.1 h
  rw [List.take_succ_eq_append_getElem hk, e]
  simp
end Go.UtYtledbiabdiijhaa
namespace Go.Proofs.Ytledbiabdiijhaa
open Go.RowKit Go.UtYtledbiabdiijhaa
set_option maxRecDepth 100000 in
set_option maxHeartbeats 2000000 in
theorem pApply_any (A At : Option Addr) (c ct : Nat) (rules : List TR) (text : List Int) (w : World) (hR : RulesAt w w.heap.size A rules) (hs : smR rules) (hl : rules.length ≤ c) (hc : c ≤ maxLen) (hrl : rules.length ≤ 1000000)
    (hT : Row w w.heap.size At (ints text)) (htl : text.length ≤ 10000) (R : List Int) (hRes : outR (dataL rules) text 0 = R) :
    Calls Try.prog 16 #[.slice A rules.length c, .slice At text.length ct] w (RetI w R) := by
  have HC := Lib.hid (compiled_any A c rules w hR hs hl hc hrl)
  have HT := Lib.hid hT
  have HRS := Lib.hid hRes
  have hDL : (dataL rules).length ≤ 1000000 := Nat.le_trans (data_len rules) hrl
  have HOK := Lib.hid (data_ok (l := rules))
  have HMO := Lib.hid (data_mat rules)
  obtain ⟨D, hD⟩ : ∃ D, dataL rules = D := ⟨_, rfl⟩
  obtain ⟨rn, hrn⟩ : ∃ n, rules.length = n := ⟨_, rfl⟩
  obtain ⟨nt, hnt⟩ : ∃ n, text.length = n := ⟨_, rfl⟩
  unfold RetTrie at HC
  rw [hD] at HC HRS hDL HOK HMO
  rw [hrn] at HC
  obtain ⟨dn, hdn⟩ : ∃ n, D.length = n := ⟨_, rfl⟩
  rw [hdn] at hDL
  rw [hnt] at htl
  rw [hrn, hnt]
  have HNT := Lib.hid hnt
  have HDN := Lib.hid hdn
  clear hR hs hl hc hrl hT hRes hrn hnt hD hdn
  obtain ⟨i0, hi0, hz0, hz1, hz2⟩ := info_parts in_info
  go_enter Try.func16, Try.ntmps16
  go_wp2
  go_step3
  go_wp2_with (first
    | (go_at_call 28
       refine HC.out.mono ?_
       rintro e w1 ⟨g, A', c', rfl, htr, hru, hb1⟩
       replace htr := Lib.hid htr
       have HRU := Lib.hid hru
       have HB1 := Lib.hid hb1
       clear hru hb1))
  go_step3
  go_wp2
  go_loopw [5, 7] (fun res at_ wr => ∃ (p n0 c0 nn : Nat) (A0 : Option Addr) (out : List Int) (nodes : List (List Int)), at_ = .int .i64 (p : Int) ∧ p ≤ nt ∧ res = .slice A0 n0 c0 ∧ n0 ≤ 16 * p ∧ nn ≤ 1 + 10000 * p ∧ Hid (nodes.length = nn) ∧ Hid (out ++ outR D text p = R) ∧ Hid (wr.ownsRow w.heap.size 3 1 (.slice A0 n0 c0) n0 (ints out)) ∧ Hid (TrieAt 59 23 3 wr w.heap.size g (fun x => (Value.slice A0 n0 c0).ownBlock = some x) A' c' D nodes) ∧ Hid (Below w.heap.size w wr)) (fun _ at_ _ => nt - (intOf at_).toNat)
  case atStart => exact ⟨0, 0, 0, 1, none, [], [[]], rfl, by omega, rfl, by omega, by omega, rfl, HRS.out, own_nil _, htr.out.newX (fun x hx => by simp [Value.ownBlock] at hx), HB1⟩
  case round =>
    obtain ⟨wo, hwo⟩ : ∃ x, x = wr := ⟨_, rfl⟩
    subst hwo
    obtain ⟨p, n0, c0, nn, A0, out, nodes, rfl, hp, rfl, hn0, hnn, HNN, HOUT, HO, HTR, HB⟩ := hrel
    have hbs := HB.out.size
    by_cases hpn : p < nt
    · have HSTEP := tstep_any A' At c' ct w.heap.size g (fun x => (Value.slice A0 n0 c0).ownBlock = some x) D text nodes p wo (HRU.out.below HB.out) HTR.out (fun x hx => (own_lt HO.out x hx).2.1) (HT.out.below HB.out) (by rw [HNT.out]; omega) (by rw [HNT.out]; omega) (by rw [HNT.out, HNN.out]; omega) (by rw [HDN.out]; exact hDL)
      rw [HNT.out] at HSTEP
      replace HSTEP := Lib.hid HSTEP
      obtain ⟨bt, ot, x, rfl, hbt, hxt, cct⟩ := (HT.out.below HB.out).at_int (k := p) (by rw [HNT.out]; exact hpn)
      obtain ⟨i, m, hst⟩ := step_ex D text p
      have HST := Lib.hid hst
      rcases hst with ⟨rfl, rfl, _⟩ | ⟨k, r, rfl, hk, rfl, happ, _⟩
      · have HO1 : Hid ((out ++ [x]) ++ outR D text (p + 1) = R) := by
          have := HOUT.out
          rw [outR_step HMO.out (by rw [HNT.out]; exact hpn) HST.out, writS_neg D hxt.out] at this
          show _ = _
          simpa using this
        go_wp2_with (first
          | (at_builtin
             refine wpList_append_row _ rfl (.tmp 27) (.tmp 32) _ rfl w.heap.size 3 i0 _ 1 8 Try.underlying23 hi0 hz0 hz1 hz2 rfl (by omega) (.slice A0 n0 c0) n0 (ints out) rfl (ow_alloc HO2.out _) _ _ 1 1 [Value.int .i64 x] rfl rfl (row_lit w2 _ _) (ints_one1 _) (by simp only [maxLen]; omega) (by omega) (by have := HB2.out.size; simp; omega) ?_
             intro q4 w4 o4 g4 t4
             obtain ⟨A4, c4, rfl⟩ := ow_slice (m := n0 + 1) o4 rfl
             rw [← ints_snoc] at o4
             have HB4 : Hid (Below w.heap.size w w4) := (HB2.out.alloc HB2.out.size _).grown g4 (by have := HB2.out.size; simp; omega) (fun g hg => own_base HO2.out g hg)
             have HT4 := Lib.hid (TrieAt.app HT2.out g4 t4)
             have HO4 := Lib.hid o4
             clear o4 g4 t4)
          | (go_at_call 29
             refine HSTEP.out.mono ?_
             rintro e w2 ⟨i', m', nodes2, rfl, h1, h2, h3, h4, h5⟩
             obtain ⟨rfl, rfl⟩ := step_unique h1 HST.out
             have HT2 := Lib.hid h2
             rw [HNN.out, HNT.out] at h3
             have HO2 : Hid (w2.ownsRow w.heap.size 3 1 (.slice A0 n0 c0) n0 (ints out)) := own_keepX HO.out (fun x hx _ => h5 x hx)
             have HB2 : Hid (Below w.heap.size w w2) := HB.out.trans h4
             have cct2 := (h4.cell (p := ⟨bt, ot + p, none⟩) hbt).trans cct
             have hbt2 : bt < w2.heap.size := by have := HB2.out.size; omega
             clear h1 h2 h4 h5))
        go_roundw
        case rel => exact ⟨p + 1, n0 + 1, c4, nodes2.length, A4, _, nodes2, by go_num, by omega, rfl, by omega, by omega, rfl, HO1, HO4, HT4, HB4⟩
        case measure => simp [intOf]; omega
      · have hkd : k < dn := by
          have := (List.getElem?_eq_some_iff.1 hk).1
          rw [HDN.out] at this
          exact this
        obtain ⟨hsz, hso, hro⟩ := chk1_ok (HOK.out r (List.mem_of_getElem? hk))
        have hfit := ((hits_append.1 happ.1).1).1
        rw [HNT.out] at hfit
        have hm1 := hsz.1
        have hr16 := hsz.2.2.2.2
        have HO1 : Hid ((out ++ r.res.map (pieceW text p)) ++ outR D text (p + r.mat.length) = R) := by
          have := HOUT.out
          rw [outR_step HMO.out (by rw [HNT.out]; exact hpn) HST.out, writS_rule hk, Int.toNat_natCast] at this
          show _ = _
          rw [List.append_assoc]
          exact this
        obtain ⟨br, or, v0, v1, v2, v3, r', rfl, hbr, hxr, HRA, c0', c1', c2', c3'⟩ := HRU.out.at_ (k := k) (by rw [HDN.out]; exact hkd)
        obtain rfl : r' = r := by
          have := hxr.out
          rw [hk] at this
          injection this with this
          exact this.symm
        obtain ⟨Ab, cb, Am, cm, Aa, ca, Ar, cr, hvs, ⟨_, _, _, rr⟩, _, _, _, r1, r2⟩ := HRA.out
        simp only [List.cons.injEq, and_true] at hvs
        obtain ⟨rfl, rfl, rfl, rfl⟩ := hvs
        have RR := Lib.hid rr
        have HRO := Lib.hid hro
        obtain ⟨nr, hnr⟩ : ∃ n, r'.res.length = n := ⟨_, rfl⟩
        obtain ⟨nm, hnm⟩ : ∃ n, r'.mat.length = n := ⟨_, rfl⟩
        rw [hnr] at c3' r1 hr16
        rw [hnm] at HST HO1 hfit hm1 c1'
        unfold maxLen at r2
        have HNR := Lib.hid hnr
        have HNM := Lib.hid hnm
        clear rr hro hso hsz hnr hnm HRA hk hxr happ
        go_wp2_with (first
          | (go_at_call 29
             refine HSTEP.out.mono ?_
             rintro e w2 ⟨i', m', nodes2, rfl, h1, h2, h3, h4, h5⟩
             obtain ⟨rfl, rfl⟩ := step_unique h1 HST.out
             have HT2 := Lib.hid h2
             rw [HNN.out, HNT.out] at h3
             have HO2 : Hid (w2.ownsRow w.heap.size 3 1 (.slice A0 n0 c0) n0 (ints out)) := own_keepX HO.out (fun x hx _ => h5 x hx)
             have HB2 : Hid (Below w.heap.size w w2) := HB.out.trans h4
             have s2 := HB2.out.size
             have d3 := (HB2.out.cell (p := ⟨br, or + k * 4 + 3, none⟩) hbr).trans c3'
             have hbr2 : br < w2.heap.size := by omega
             have hg2 := h2.base.2.1
             obtain ⟨mb, Al, cl, mm, vs, z1, _⟩ := h2
             obtain ⟨e0, _, _⟩ := z1.cells3
             rw [HDN.out] at e0
             clear h1 h4 h5 z1))
        go_loopw [5, 45] (fun res j wr => ∃ (q n1 c1 : Nat) (A1 : Option Addr), q ≤ nr ∧ j = .int .i64 (q : Int) ∧ res = .slice A1 n1 c1 ∧ n1 ≤ 16 * p + q ∧ Hid (wr.ownsRow w.heap.size 3 1 (.slice A1 n1 c1) n1 (ints (out ++ (r'.res.take q).map (pieceW text p)))) ∧ Hid (TrieAt 59 23 3 wr w.heap.size g (fun x => (Value.slice A1 n1 c1).ownBlock = some x) (some ⟨br, or, none⟩) c' D nodes2) ∧ Hid (Below w.heap.size w wr)) (fun _ j _ => nr - (intOf j).toNat)
        case atStart => exact ⟨0, n0, c0, A0, by omega, rfl, rfl, by omega, by simpa using HO2, HT2, HB2⟩
        case round =>
          obtain ⟨q, n1, c1, A1, hq, rfl, rfl, hn1, HOq, HTq, HBq⟩ := hrel
          have hbq := HBq.out.size
          by_cases hqn : q < nr
          · obtain ⟨bp, op, x', y', rfl, hbp, hxp, cp0, cp1⟩ := at_pr (RR.out.below HBq.out) (k := q) (by rw [HNR.out]; exact hqn)
            have hpo := HRO.out (x', y') (List.mem_of_getElem? hxp.out)
            have HMT := Lib.hid (map_take (f := pieceW text p) hxp.out)
            go_upto_region 12 with fail
            obtain ⟨wb, hwb, HBb, HKb⟩ : ∃ v, v = wr.alloc (.cells #[.int .i64 x', .int .i64 y'] 51) ∧ Hid (Below wr.heap.size wr v) ∧ Hid (Blk v wr.heap.size 51 #[.int .i64 x', .int .i64 y']) := ⟨_, rfl, (Below.refl _ _).alloc (Nat.le_refl _) _, Blk.new _ _ _⟩
            rw [← hwb]
            clear hwb
            have HOb := Lib.hid (ow_below HOq.out HBb.out)
            have HTb := Lib.hid (HTq.out.below HBb.out)
            have HBB : Hid (Below w.heap.size w wb) := HBq.out.trans (HBb.out.mono hbq)
            have hbb := HBB.out.size
            have f0 := HKb.out.cell 0
            have f1 := HKb.out.cell 1
            have f2 := HKb.out.lt
            simp at f0 f1
            clear cp0 cp1
            by_cases hy : y' = 0
            · subst hy
              rw [pieceW_code] at HMT
              go_wp2_with (first
                | (at_builtin
                   refine wpList_append_row _ rfl (.tmp 52) (.tmp 55) _ rfl w.heap.size 3 i0 _ 1 8 Try.underlying23 hi0 hz0 hz1 hz2 rfl (by omega) (.slice A1 n1 c1) n1 (ints (out ++ (r'.res.take q).map (pieceW text p))) rfl (ow_alloc HOb.out _) _ _ 1 1 [Value.int .i64 x'] rfl rfl (row_lit wb _ _) (ints_one1 _) (by simp only [maxLen]; omega) (by omega) (by simp; omega) ?_
                   intro q4 w4 o4 g4 t4
                   obtain ⟨A4, c4, rfl⟩ := ow_slice (m := n1 + 1) o4 rfl
                   rw [← ints_snoc, List.append_assoc, ← HMT.out] at o4
                   have HB4 : Hid (Below w.heap.size w w4) := (HBB.out.alloc hbb _).grown g4 (by simp; omega) (fun g hg => own_base HOb.out g hg)
                   have HT4 := Lib.hid (TrieAt.app HTb.out g4 t4)
                   have HO4 := Lib.hid o4
                   clear o4 g4 t4))
              go_roundw
              case rel => exact ⟨q + 1, n1 + 1, c4, A4, by omega, by go_num, rfl, by omega, HO4, HT4, HB4⟩
              case measure => simp [intOf]; omega
            · have hyr : 1 ≤ y' ∧ y' ≤ (nm : Int) := by
                rcases hpo with h | h
                · exact absurd h.1 hy
                · exact ⟨h.2.1, by have := h.2.2; rw [HNM.out] at this; exact this⟩
              obtain ⟨hy1, hy2⟩ := hyr
              obtain ⟨b5, o5, z, ht5, hb5, hz5, c5⟩ := (HT.out.below HBB.out).at_int (k := p + y'.toNat - 1) (by rw [HNT.out]; omega)
              injection ht5 with ht5
              injection ht5 with e5 e6
              subst e5 e6
              rw [pieceW_copy hy hz5.out] at HMT
              have k1 : IntKind.i64.wrap ((p : Int) + y') = (p : Int) + y' := IntWalk.i64_in _ (by omega)
              have k2 : IntKind.i64.wrap ((p : Int) + y' - 1) = (p : Int) + y' - 1 := IntWalk.i64_in _ (by omega)
              have k3 : (0 : Int) ≤ (p : Int) + y' - 1 := by omega
              have k4 : (p : Int) + y' - 1 < (nt : Int) := by omega
              have k5 : ((p : Int) + y' - 1).toNat = p + y'.toNat - 1 := by omega
              have hbt3 : bt < wb.heap.size := by omega
              clear hpo
              go_wp2_with (first
                | (at_builtin
                   refine wpList_append_row _ rfl (.tmp 57) (.tmp 66) _ rfl w.heap.size 3 i0 _ 1 8 Try.underlying23 hi0 hz0 hz1 hz2 rfl (by omega) (.slice A1 n1 c1) n1 (ints (out ++ (r'.res.take q).map (pieceW text p))) rfl (ow_alloc HOb.out _) _ _ 1 1 [Value.int .i64 z] rfl rfl (row_lit wb _ _) (ints_one1 _) (by simp only [maxLen]; omega) (by omega) (by simp; omega) ?_
                   intro q4 w4 o4 g4 t4
                   obtain ⟨A4, c4, rfl⟩ := ow_slice (m := n1 + 1) o4 rfl
                   rw [← ints_snoc, List.append_assoc, ← HMT.out] at o4
                   have HB4 : Hid (Below w.heap.size w w4) := (HBB.out.alloc hbb _).grown g4 (by simp; omega) (fun g hg => own_base HOb.out g hg)
                   have HT4 := Lib.hid (TrieAt.app HTb.out g4 t4)
                   have HO4 := Lib.hid o4
                   clear o4 g4 t4))
              go_roundw
              case rel => exact ⟨q + 1, n1 + 1, c4, A4, by omega, by go_num, rfl, by omega, HO4, HT4, HB4⟩
              case measure => simp [intOf]; omega
          · obtain rfl : nr = q := by omega
            rw [List.take_of_length_le (by rw [HNR.out]; exact Nat.le_refl _)] at HOq
            go_wp2
            go_roundw
            case rel => exact ⟨p + nm, n1, c1, nodes2.length, A1, _, nodes2, by go_num, by omega, rfl, by omega, by omega, rfl, HO1, HOq, HTq, HBq⟩
            case measure => simp [intOf]; omega
    · obtain rfl : p = nt := by omega
      have HF : Hid (out = R) := by
        have := HOUT.out
        rw [outR_end (by rw [HNT.out]; omega), List.append_nil] at this
        exact this
      go_wp2
      try rw [Exit.noGoto_ret]
      go_ret
      obtain ⟨hr, hc1, hc2⟩ := ow_row HO.out
      have hle := HO.out.1
      rw [ints_len, Nat.mul_one] at hle
      rw [← HF.out]
      exact ⟨A0, c0, by rw [hle]; rfl, by omega, hc2, hr, HB.out⟩
end Go.Proofs.Ytledbiabdiijhaa
