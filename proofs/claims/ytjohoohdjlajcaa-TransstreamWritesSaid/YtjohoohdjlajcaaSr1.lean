/-
  (*ref52.Stream).step: one step of the reference's stream.
  The reference's stream: Write, Close, Pending.
-/
import Derived.Test.YtjohoohdjlajcaaSr0
import Derived.Test.YtjohoohdjlajcaaSb0
namespace Go.UtYtjohoohdjlajcaa
theorem era_nil (w : World) : era w (fun _ => False) = w := by
  unfold era
  have : (w.heap.mapIdx fun i o => if (fun _ : Nat => False) i then Obj.cells #[] 0 else o) = w.heap := by
    apply Array.ext
    · simp
    · intro i h1 h2
      simp
  simp only [if_false] at this ⊢
  rw [this]
theorem RulesAt.era_below {w : World} {B : Nat} {A : Option Addr} {E : Nat → Prop} {rules : List TR} (h : RulesAt w B A rules) (he : ∀ b, E b → B ≤ b) : RulesAt (era w E) B A rules := by
  have h1 : RulesAt (era w (fun _ => False)) B A rules := by rw [era_nil]; exact h
  exact h1.era_keep (fun _ _ _ => rfl) (fun b hb hE => by have := he b hE; omega)
end Go.UtYtjohoohdjlajcaa
namespace Go.Proofs.Ytjohoohdjlajcaa
open Go.RowKit Go.UtYtjohoohdjlajcaa
attribute [local go_sem high] cut_l cut_lh cutA_zero
theorem ref5 {w : World} {g t : Nat} {Ar : Option Addr} {nr cr ah : Nat} {A : Option Addr} {n c p : Nat} {op : Bool} (h : Blk w g t (refC Ar nr cr ah A n c p op)) :
    w.cell? ⟨g, 0, none⟩ = some (.slice Ar nr cr) ∧ w.cell? ⟨g, 1, none⟩ = some (.int .i64 (ah : Int)) ∧ w.cell? ⟨g, 2, none⟩ = some (.slice A n c) ∧ w.cell? ⟨g, 3, none⟩ = some (.int .i64 (p : Int)) ∧ w.cell? ⟨g, 4, none⟩ = some (.bool op) :=
  ⟨h.cell 0, h.cell 1, h.cell 2, h.cell 3, h.cell 4⟩
/-- the call returns what the step writes; the stream stands behind it -/
def RetS1 (w : World) (g : Nat) (Ar : Option Addr) (nr cr ah : Nat) (A : Option Addr) (n c q : Nat) (op : Bool) (R : List Int) (e : Ending) (w' : World) : Prop :=
  ∃ A' n' c', e = .returned (.slice A' n' c') ∧ n' ≤ 16 ∧ Hid (R.length = n') ∧ Hid (Row (era w' (· = g)) w'.heap.size A' (ints R)) ∧ Hid (Blk w' g 73 (refC Ar nr cr ah A n c q op)) ∧ Hid (Fr w w' g)
set_option maxRecDepth 100000 in
set_option maxHeartbeats 4000000 in
theorem step52_any (g : Nat) (Ar : Option Addr) (nr cr ah : Nat) (A : Option Addr) (n c q : Nat) (op : Bool) (D : List TR) (items : List Int) (w : World) (hG : Blk w g 73 (refC Ar nr cr ah A n c q op))
    (hA : Row (era w (· = g)) w.heap.size A (ints items)) (hn : items.length = n) (hc : n ≤ c) (hcm : c ≤ maxLen) (hR : RulesAt (era w (· = g)) w.heap.size Ar D) (hnr : D.length = nr) (hcr : nr ≤ cr) (hcrm : cr ≤ maxLen) (hs : smR D) (hd : dataL D = D) (hq : q < n) (hl : n ≤ 10000) (i m : Int) (hst : IsStep D items q i m) (R : List Int) (hRes : writS D items q i = R) :
    Calls Try.prog 41 #[.pointer (some ⟨g, 0, none⟩)] w (RetS1 w g Ar nr cr ah A n c (q + m.toNat) op R) := by
  have HA := Lib.hid hA
  have HR := Lib.hid hR
  have HS := Lib.hid hs
  have HD := Lib.hid hd
  have HN := Lib.hid hn
  have HNR := Lib.hid hnr
  have HCR := Lib.hid (And.intro hcr hcrm)
  have HRS := Lib.hid hRes
  have HMO := Lib.hid (data_mat D)
  have HOK := Lib.hid (data_ok (l := D))
  have h200 := data_200 D
  rw [hd] at HMO HOK h200
  rw [hnr] at h200
  have hg := hG.lt
  have HG := Lib.hid hG
  unfold maxLen at hcm
  have hm1 := step_pos HMO.out hst
  have hm2 := step_in (by rw [hn]; omega) hst
  rw [hn] at hm2
  clear hA hR hs hd hn hnr hcr hcrm hRes hG
  obtain ⟨i0, hi0, hz0, hz1, hz2⟩ := info_parts in_info
  have HSTEP := fun (u : World) (hu : Below w.heap.size w u) => rStep_any Ar A cr c D items (q : Int) u (HR.out.of_era.below hu).lt HS.out (by rw [HNR.out]; exact HCR.out.1) HCR.out.2 (HA.out.of_era.below hu).lt (by rw [HN.out]; omega)
  rw [HN.out, HNR.out, HD.out] at HSTEP
  replace HSTEP := Lib.hid HSTEP
  have HSI : Hid (StepIs D items (q : Int) i m) := .inl ⟨by omega, by rw [HN.out]; omega, hst⟩
  obtain ⟨bt, ot, x, rfl, hbt, hxt, cct⟩ := HA.out.of_era.at_int (k := q) (by rw [HN.out]; omega)
  obtain ⟨mn, rfl⟩ : ∃ mn : Nat, m = (mn : Int) := ⟨m.toNat, by omega⟩
  rw [Int.toNat_natCast]
  have kq1 : (0 : Int) ≤ (q : Int) := by omega
  have kq2 : (q : Int) ≤ (q : Int) + (mn : Int) := by omega
  have kq3 : (q : Int) + (mn : Int) ≤ (c : Int) := by omega
  have kq4 : IntKind.i64.wrap ((q : Int) + (mn : Int)) = (q : Int) + (mn : Int) := IntWalk.i64_in _ (by omega)
  go_enter Try.func41, Try.ntmps41
  go_wp2
  refine wp_region_tree (fun w' => Blk w' g 73 (refC Ar nr cr ah (some ⟨bt, ot, none⟩) n c q op)) (.float 0 (.float 1 (.float 2 (.float 3 (.float 4 (.float 5 (.float 6 (.float 7 (.float 8 (.float 9 (.float 10 (.float 11 (.one 12 (.float 13 (.float 14 (.float 15 (.float 16 (.float 17 .done)))))))))))))))))) (by kernel_rfl) (by kernel_rfl) (fun _ _ d _ _ h => by cases d <;> exact h) HG.out ?_
  obtain ⟨wd, hwd⟩ : ∃ x, x = w.drew := ⟨_, rfl⟩
  have HBm : Hid (Below w.heap.size w wd) := by rw [hwd]; exact (Below.refl _ _).drew
  rw [← hwd]
  clear hwd
  repeat (first
    | (refine wpTr_fskip (by simp only [List.getElem?_toArray, List.getElem?_cons_zero, List.getElem?_cons_succ]; rfl) (by rfl) ?_
       simp only [Act.put, List.setIfInBounds_toArray, List.set_cons_zero, List.set_cons_succ])
    | (refine wpTr_float (v := ?_) (by simp only [List.getElem?_toArray, List.getElem?_cons_zero, List.getElem?_cons_succ]; rfl) (by rfl) (fun w' hS => ?_) ?_
       rotate_left
       ((obtain ⟨e0', e1', e2', e3', e4'⟩ := ref5 hS; have hlS := hS.lt); go_simp; first | done | rfl)
       simp only [Act.put, List.setIfInBounds_toArray, List.set_cons_zero, List.set_cons_succ]))
  refine wpTr_one ?_
  refine stepTr_K (by simp only [List.getElem?_toArray, List.getElem?_cons_zero, List.getElem?_cons_succ]; rfl) (by rfl) (fun K hK => ?_)
  go_simp
  refine (HSTEP.out wd HBm.out).mono ?_
  rintro e w2 ⟨i', m', rfl, hst2, hb2⟩
  obtain ⟨rfl, rfl⟩ := stepIs_unique HSI.out hst2
  have HB2 : Hid (Below w.heap.size w w2) := HBm.out.trans (hb2.mono HBm.out.size)
  have HG2 := Lib.hid (HG.out.after HB2.out)
  refine hK.out _ _ HG2.out ?_
  clear hK K hst2 hb2
  try simp only [Act.put, List.setIfInBounds_toArray, List.set_cons_zero, List.set_cons_succ]
  repeat (first
    | (refine wpTr_fskip (by simp only [List.getElem?_toArray, List.getElem?_cons_zero, List.getElem?_cons_succ]; rfl) (by rfl) ?_
       simp only [Act.put, List.setIfInBounds_toArray, List.set_cons_zero, List.set_cons_succ])
    | (refine wpTr_float (v := ?_) (by simp only [List.getElem?_toArray, List.getElem?_cons_zero, List.getElem?_cons_succ]; rfl) (by rfl) (fun w' hS => ?_) ?_
       rotate_left
       ((skip); go_simp; first | done | rfl)
       simp only [Act.put, List.setIfInBounds_toArray, List.set_cons_zero, List.set_cons_succ]))
  refine wpTr_done ?_
  go_wp2
  refine wp_region_tree (fun w' => Blk w' g 73 (refC Ar nr cr ah (some ⟨bt, ot, none⟩) n c q op)) (.float 0 (.float 1 (.float 2 (.float 3 (.float 4 (.float 5 (.float 6 (.float 7 (.float 8 (.float 9 (.float 10 (.float 11 (.float 12 (.float 13 (.float 14 (.float 15 .done)))))))))))))))) (by kernel_rfl) (by kernel_rfl) (fun _ _ d _ _ h => by cases d <;> exact h) HG2.out ?_
  obtain ⟨w3, hw3⟩ : ∃ x, x = w2.drew := ⟨_, rfl⟩
  have HB3 : Hid (Below w.heap.size w w3) := by rw [hw3]; exact HB2.out.drew
  rw [← hw3]
  clear hw3
  repeat (first
    | (refine wpTr_fskip (by simp only [List.getElem?_toArray, List.getElem?_cons_zero, List.getElem?_cons_succ]; rfl) (by rfl) ?_
       simp only [Act.put, List.setIfInBounds_toArray, List.set_cons_zero, List.set_cons_succ])
    | (refine wpTr_float (v := ?_) (by simp only [List.getElem?_toArray, List.getElem?_cons_zero, List.getElem?_cons_succ]; rfl) (by rfl) (fun w' hS => ?_) ?_
       rotate_left
       ((obtain ⟨e0', e1', e2', e3', e4'⟩ := ref5 hS; have hlS := hS.lt); go_simp; first | done | rfl)
       simp only [Act.put, List.setIfInBounds_toArray, List.set_cons_zero, List.set_cons_succ]))
  refine wpTr_done ?_
  rw [show ((q : Int) + (mn : Int)).toNat - q = mn by omega, cutA_some (b := bt) (o := ot) (m := c) (l := q) (by omega)]
  have HG3 := Lib.hid (HG.out.after HB3.out)
  have HAC : Hid (Row (era w (· = g)) w.heap.size (some ⟨bt, ot + q, none⟩) (ints (items.drop q))) := by
    have := HA.out.tail (l := q) (c := c) (by rw [HN.out]; exact hc)
    rw [cutA_some (by omega)] at this
    exact this
  obtain ⟨y0, y1, y2, y3, y4⟩ := ref5 HG3.out
  have f3 := HG3.out.free 3
  have hl3 := HG3.out.lt
  obtain ⟨w4, hw4, HG4, HF4⟩ : ∃ v, v = w3.setCell ⟨g, 3, none⟩ (.int .i64 ((q : Int) + (mn : Int))) ∧ Hid (Blk v g 73 (refC Ar nr cr ah (some ⟨bt, ot, none⟩) n c (q + mn) op)) ∧ Hid (Fr w v g) := by
    refine ⟨_, rfl, ?_, ?_⟩
    · have := HG3.out.set_ 3 (.int .i64 ((q + mn : Nat) : Int))
      rw [Int.natCast_add] at this
      exact this
    · exact ((Fr.refl w g).after HB3.out hg).set 3 _
  go_upto_region 4 with fail
  rw [← hw4]
  clear hw4 y0 y1 y2 y3 y4 f3 hl3
  rcases hst with ⟨rfl, hmn, _⟩ | ⟨k, r, rfl, hk, hmn, happ, _⟩
  · obtain rfl : mn = 1 := by omega
    have HX : Hid (R = [x]) := by
      show _ = _
      rw [← HRS.out, writS_neg D hxt.out]
    have HRX : Hid (Row (era w4 (· = g)) w4.heap.size (some ⟨bt, ot + q, none⟩) (ints R)) := by
      have h1 := (HAC.out.init (k := 1)).era_keep (E' := (· = g)) (fun b hb hE => HF4.out.2 b hb hE) (fun _ _ h => h)
      obtain ⟨h2, h3⟩ := List.getElem?_eq_some_iff.1 hxt.out
      rw [List.drop_eq_getElem_cons h2, h3] at h1
      have h4 := h1.more HF4.out.size
      rw [HX.out]
      exact h4
    clear hmn
    go_wp2
    go_ret
    exact ⟨some ⟨bt, ot + q, none⟩, 1, c - q, rfl, by omega, by rw [HX.out]; rfl, HRX, HG4, HF4⟩
  · have hkn : k < nr := by
      have := (List.getElem?_eq_some_iff.1 hk).1
      rw [HNR.out] at this
      exact this
    obtain ⟨hsz, hso, hro⟩ := chk1_ok (HOK.out r (List.mem_of_getElem? hk))
    have hr16 := hsz.2.2.2.2
    have HX : Hid (r.res.map (pieceW items q) = R) := by
      show _ = _
      rw [← HRS.out, writS_rule hk]
    obtain ⟨br, or, v0, v1, v2, v3, r', rfl, hbr, hxr, HRA, c0', c1', c2', c3'⟩ := (HF4.out.rules HR.out).at_ (k := k) (by rw [HNR.out]; exact hkn)
    obtain rfl : r' = r := by
      have := hxr.out
      rw [hk] at this
      injection this with this
      exact this.symm
    obtain ⟨Ab, cb, Am, cm, Aa, ca, Ap, cp, hvs, ⟨_, _, _, rr⟩, _, _, _, r1, r2⟩ := HRA.out
    simp only [List.cons.injEq, and_true] at hvs
    obtain ⟨rfl, rfl, rfl, rfl⟩ := hvs
    have RR := Lib.hid rr
    have HRO := Lib.hid hro
    obtain ⟨np, hnp⟩ : ∃ n, r'.res.length = n := ⟨_, rfl⟩
    obtain rfl : mn = r'.mat.length := by omega
    obtain ⟨nm, hnm⟩ : ∃ n, r'.mat.length = n := ⟨_, rfl⟩
    rw [hnp] at c3' r1 hr16
    rw [hnm] at hm1 hm2 kq2 kq3 kq4 HG4 c1' ⊢
    unfold maxLen at r2
    have HNP := Lib.hid hnp
    have HNM := Lib.hid hnm
    have hbr4 : br < w4.heap.size := by have := HF4.out.size; omega
    obtain ⟨y0, y1, y2, y3, y4⟩ := ref5 HG4.out
    have hl4 := HG4.out.lt
    clear rr hro hso hsz hnp HRA hk hxr happ hmn HSI
    go_wp2
    go_loopw [6, 8] (fun res j wr => ∃ (z n1 c1 : Nat) (A1 : Option Addr), z ≤ np ∧ j = .int .i64 (z : Int) ∧ res = .slice A1 n1 c1 ∧ n1 ≤ z ∧ Hid (wr.ownsRow w.heap.size 3 1 (.slice A1 n1 c1) n1 (ints ((r'.res.take z).map (pieceW items q)))) ∧ Hid (Blk wr g 73 (refC (some ⟨br, or, none⟩) nr cr ah (some ⟨bt, ot, none⟩) n c (q + nm) op)) ∧ Hid (Fr w wr g) ∧ Hid (Row wr w.heap.size Ap (prs r'.res))) (fun _ j _ => np - (intOf j).toNat)
    case atStart => exact ⟨0, 0, 0, none, by omega, rfl, rfl, by omega, own_nil _, HG4, HF4, RR⟩
    case round =>
      obtain ⟨z, n1, c1, A1, hz, rfl, rfl, hn1, HOz, HGz, HFz, HRz⟩ := hrel
      have hfz := HFz.out.size
      by_cases hzn : z < np
      · obtain ⟨bp, op', x', y', rfl, hbp, hxp, cp0, cp1⟩ := at_pr HRz.out (k := z) (by rw [HNP.out]; exact hzn)
        have hpo := HRO.out (x', y') (List.mem_of_getElem? hxp.out)
        have HMT := Lib.hid (map_take (f := pieceW items q) hxp.out)
        by_cases hy : y' = 0
        · subst hy
          rw [pieceW_code] at HMT
          go_wp2_with (first
            | (at_builtin
               refine wpList_append_row _ rfl (.tmp 84) (.tmp 90) _ rfl w.heap.size 3 i0 _ 1 8 Try.underlying31 hi0 hz0 hz1 hz2 rfl (by omega) (.slice A1 n1 c1) n1 (ints ((r'.res.take z).map (pieceW items q))) rfl (ow_alloc HOz.out _) _ _ 1 1 [Value.int .i64 x'] rfl rfl (row_lit wr _ _) (ints_one1 _) (by simp only [maxLen]; omega) (by omega) (by simp; omega) ?_
               intro q4 w5 o4 g4 t4
               obtain ⟨A4, c4, rfl⟩ := ow_slice (m := n1 + 1) o4 rfl
               rw [← ints_snoc, ← HMT.out] at o4
               have HFl : Hid (Fr w (wr.alloc (.cells #[.int .i64 x'] 3)) g) := HFz.out.after ((Below.refl _ _).alloc (Nat.le_refl _) _) hg
               have HF5 : Hid (Fr w w5 g) := HFl.out.own g4 (Nat.le_refl _) (fun x hx => own_base HOz.out x hx) hg
               have HG5 : Hid (Blk w5 g 73 (refC (some ⟨br, or, none⟩) nr cr ah (some ⟨bt, ot, none⟩) n c (q + nm) op)) := bk_grown (HGz.out.alloc _) g4 (fun e => by have := own_base HOz.out g e.symm; omega)
               have HR5 : Hid (Row w5 w.heap.size (some ⟨bp, op', none⟩) (prs r'.res)) := (HRz.out.below ((Below.refl _ _).alloc (by omega) _)).grown g4 (by simp; omega) (fun x hx => own_base HOz.out x hx)
               have HO5 := Lib.hid o4
               clear o4 g4 t4))
          go_roundw
          case rel => exact ⟨z + 1, n1 + 1, c4, A4, by omega, by go_num, rfl, by omega, HO5, HG5, HF5, HR5⟩
          case measure => simp [intOf]; omega
        · have hyr : 1 ≤ y' ∧ y' ≤ (nm : Int) := by
            rcases hpo with h | h
            · exact absurd h.1 hy
            · exact ⟨h.2.1, by have := h.2.2; rw [HNM.out] at this; exact this⟩
          obtain ⟨hy1, hy2⟩ := hyr
          have hy0 : 0 < y' := by omega
          obtain ⟨j5, hj5⟩ : ∃ j, j = y'.toNat - 1 := ⟨_, rfl⟩
          obtain ⟨bt', ot', x5, hbt5, _, hz5, c5⟩ := (HFz.out.row HA.out).at_int (k := q + y'.toNat - 1) (by rw [HN.out]; omega)
          injection hbt5 with hbt5
          injection hbt5 with e6 e7
          subst e6 e7
          rw [pieceW_copy hy hz5.out] at HMT
          rw [show ot + (q + y'.toNat - 1) = ot + q + j5 by omega] at c5
          have k2 : IntKind.i64.wrap (y' - 1) = (j5 : Int) := by rw [show y' - 1 = (j5 : Int) by omega]; exact IntWalk.i64_in _ (by omega)
          have k4 : (j5 : Int) < (nm : Int) := by omega
          have hbt6 : bt < wr.heap.size := by omega
          clear hpo hj5
          go_wp2_with (first
            | (at_builtin
               refine wpList_append_row _ rfl (.tmp 72) (.tmp 82) _ rfl w.heap.size 3 i0 _ 1 8 Try.underlying31 hi0 hz0 hz1 hz2 rfl (by omega) (.slice A1 n1 c1) n1 (ints ((r'.res.take z).map (pieceW items q))) rfl (ow_alloc HOz.out _) _ _ 1 1 [Value.int .i64 x5] rfl rfl (row_lit wr _ _) (ints_one1 _) (by simp only [maxLen]; omega) (by omega) (by simp; omega) ?_
               intro q4 w5 o4 g4 t4
               obtain ⟨A4, c4, rfl⟩ := ow_slice (m := n1 + 1) o4 rfl
               rw [← ints_snoc, ← HMT.out] at o4
               have HFl : Hid (Fr w (wr.alloc (.cells #[.int .i64 x5] 3)) g) := HFz.out.after ((Below.refl _ _).alloc (Nat.le_refl _) _) hg
               have HF5 : Hid (Fr w w5 g) := HFl.out.own g4 (Nat.le_refl _) (fun x hx => own_base HOz.out x hx) hg
               have HG5 : Hid (Blk w5 g 73 (refC (some ⟨br, or, none⟩) nr cr ah (some ⟨bt, ot, none⟩) n c (q + nm) op)) := bk_grown (HGz.out.alloc _) g4 (fun e => by have := own_base HOz.out g e.symm; omega)
               have HR5 : Hid (Row w5 w.heap.size (some ⟨bp, op', none⟩) (prs r'.res)) := (HRz.out.below ((Below.refl _ _).alloc (by omega) _)).grown g4 (by simp; omega) (fun x hx => own_base HOz.out x hx)
               have HO5 := Lib.hid o4
               clear o4 g4 t4))
          go_roundw
          case rel => exact ⟨z + 1, n1 + 1, c4, A4, by omega, by go_num, rfl, by omega, HO5, HG5, HF5, HR5⟩
          case measure => simp [intOf]; omega
      · obtain rfl : np = z := by omega
        rw [List.take_of_length_le (by rw [HNP.out]; exact Nat.le_refl _), HX.out] at HOz
        go_wp2
        go_ret
        have hle := HOz.out.1
        rw [ints_len, Nat.mul_one] at hle
        exact ⟨A1, n1, c1, rfl, by omega, hle, (ow_row HOz.out).1.era_new (own_new HOz.out) (fun x (h : x = g) => by omega), by rw [HNM.out]; exact HGz, HFz⟩
end Go.Proofs.Ytjohoohdjlajcaa
namespace Go.Proofs.Ytjohoohdjlajcaa
open Go.RowKit Go.UtYtjohoohdjlajcaa
attribute [local go_sem high] cut_l cut_lh cutA_zero
/-- where the reference's stream stands -/
def atRf (w : World) (g : Nat) : Nat := (intOf ((w.cell? ⟨g, 3, none⟩).getD undef)).toNat
theorem atRf_blk {w : World} {g q : Nat} {cs : Array Value} (h : Blk w g 73 cs) (h1 : cs[3]? = some (.int .i64 (q : Int))) : atRf w g = q := by
  unfold atRf
  rw [h.cell 3, h1]
  simp [intOf]
/-- an open stream of the reference; X: blocks of others that may change -/
def RefAt (w : World) (X : Nat → Prop) (g : Nat) (Ar : Option Addr) (cr nr ah : Nat) (inp : List Int) (p : Nat) : Prop :=
  ∃ (A : Option Addr) (n c : Nat), Blk w g 73 (refC Ar nr cr ah A n c p true) ∧ inp.length = n ∧ n ≤ c ∧ c ≤ maxLen ∧ Row (era w (fun x => x = g ∨ X x)) w.heap.size A (ints inp) ∧ p ≤ n ∧ ¬ X g
theorem RefAt.keep {w w' : World} {X X' : Nat → Prop} {g : Nat} {Ar : Option Addr} {cr nr ah : Nat} {inp : List Int} {p : Nat} (h : RefAt w X g Ar cr nr ah inp p) (hs : w.heap.size ≤ w'.heap.size) (hk : ∀ b, b < w.heap.size → ¬ X b → w'.heap[b]? = w.heap[b]?) (hx : ∀ x, X' x → w.heap.size ≤ x ∨ X x) : RefAt w' X' g Ar cr nr ah inp p := by
  obtain ⟨A, n, c, h1, h2, h3, h4, h5, h6, h7⟩ := h
  refine ⟨A, n, c, (hk g h1.lt h7).trans h1, h2, h3, h4, Row.more (B := w.heap.size) (h5.era_keep (fun b hb hE => hk b hb (fun h => hE (.inr h))) (fun b hb h => ?_)) hs, h6, fun h => ?_⟩
  · rcases h with h | h
    · exact .inl h
    · rcases hx b h with h | h
      · omega
      · exact .inr h
  · rcases hx g h with h | h
    · have := h1.lt
      omega
    · exact h7 h
set_option maxRecDepth 100000 in
theorem rpend_any (X : Nat → Prop) (g : Nat) (Ar : Option Addr) (cr nr ah : Nat) (inp : List Int) (p : Nat) (w : World) (h : RefAt w X g Ar cr nr ah inp p) :
    Calls Try.prog 22 #[.pointer (some ⟨g, 0, none⟩)] w fun e w' => ∃ (A' : Option Addr) (n c' : Nat), e = .returned (.slice A' n c') ∧ Hid (n = inp.length - p) ∧ Hid (Row w' w'.heap.size A' (ints (inp.drop p))) ∧ Hid (Below w.heap.size w w') := by
  obtain ⟨A, n, c, h1, h2, h3, h4, h5, h6, h7⟩ := h
  have HG := Lib.hid h1
  have HRO := Lib.hid (h5.of_era.tail (l := p) (c := c) (by omega))
  have HN := Lib.hid h2
  have k1 : (0 : Int) ≤ (p : Int) := by omega
  have k2 : (p : Int) ≤ (n : Int) := by omega
  clear h1 h2 h5 h7
  go_enter Try.func22, Try.ntmps22
  go_wp2
  refine wp_region_tree (fun w' => Blk w' g 73 (refC Ar nr cr ah A n c p true)) (.float 0 (.float 1 (.float 2 (.float 3 (.float 4 (.float 5 (.float 6 (.float 7 (.float 8 (.float 9 .done)))))))))) (by kernel_rfl) (by kernel_rfl) (fun _ _ d _ _ h => by cases d <;> exact h) HG.out ?_
  repeat (first
    | (refine wpTr_fskip (by simp only [List.getElem?_toArray, List.getElem?_cons_zero, List.getElem?_cons_succ]; rfl) (by rfl) ?_
       simp only [Act.put, List.setIfInBounds_toArray, List.set_cons_zero, List.set_cons_succ])
    | (refine wpTr_float (v := ?_) (by simp only [List.getElem?_toArray, List.getElem?_cons_zero, List.getElem?_cons_succ]; rfl) (by rfl) (fun w' hS => ?_) ?_
       rotate_left
       ((obtain ⟨e0', e1', e2', e3', e4'⟩ := ref5 hS; have hlS := hS.lt); go_simp; first | done | rfl)
       simp only [Act.put, List.setIfInBounds_toArray, List.set_cons_zero, List.set_cons_succ]))
  refine wpTr_done ?_
  go_wp2
  go_ret
  exact ⟨_, _, _, rfl, by show _ = _; rw [HN.out], HRO.out, (Below.refl _ _).drew⟩
def RetRW (w : World) (X : Nat → Prop) (g : Nat) (Ar : Option Addr) (cr nr ah : Nat) (D : List TR) (inp text out : List Int) (e : Ending) (w' : World) : Prop :=
  ∃ (A' : Option Addr) (n c' : Nat) (ro : List Int) (p' : Nat), e = .returned (.tuple #[.slice A' n c', .int .i64 0]) ∧ n ≤ 160000 ∧ Hid (ro.length = n) ∧ Hid (Got D ah (inp ++ text) (out ++ ro) p') ∧
    Hid (Row (era w' (fun x => x < w.heap.size)) w'.heap.size A' (ints ro)) ∧ Hid (RefAt w' X g Ar cr nr ah (inp ++ text) p') ∧ Hid (Fr w w' g)
set_option maxRecDepth 100000 in
set_option maxHeartbeats 4000000 in
theorem rwrite_any (X : Nat → Prop) (B g : Nat) (Ar : Option Addr) (cr nr bf ah : Nat) (D : List TR) (inp text out : List Int) (p m : Nat) (At : Option Addr) (ct : Nat) (w : World) (hS : RefAt w X g Ar cr nr ah inp p) (hX : ∀ x, X x → x < w.heap.size) (hD : okS D bf ah)
    (hR : RulesAt w B Ar D) (hB : B ≤ g) (hnr : D.length = nr) (hcr : nr ≤ cr) (hcrm : cr ≤ maxLen) (hT : Row w B At (ints text)) (hm : text.length = m) (hl : inp.length + m ≤ 10000) (hG : Got D ah inp out p) :
    Calls Try.prog 21 #[.pointer (some ⟨g, 0, none⟩), .slice At m ct] w (RetRW w X g Ar cr nr ah D inp text out) := by
  obtain ⟨A, n, c, h1, h2, h3, h4, h5, h6, h7⟩ := hS
  have HG := Lib.hid h1
  have HN := Lib.hid h2
  have HIN := Lib.hid h5.of_era
  have HR := Lib.hid hR
  have HNR := Lib.hid hnr
  have HCR := Lib.hid (And.intro hcr hcrm)
  have HT := Lib.hid hT
  have HM := Lib.hid hm
  have HGT := Lib.hid hG
  have HDD := Lib.hid hD
  have HX := Lib.hid hX
  have HXG := Lib.hid h7
  have hg := h1.lt
  have h1a := hD.one
  have hah := hD.1.2.2.2.2.2
  rw [h2] at hl
  unfold maxLen at h4
  obtain ⟨e0, e1, e2, e3, e4⟩ := ref5 h1
  obtain ⟨⟨ro, p'⟩, hRR⟩ : ∃ R, stS D (inp ++ text) ah p = R := ⟨_, rfl⟩
  have HRS := Lib.hid hRR
  have HNEW := Lib.hid (hG.add hD hRR)
  have HLEN : Hid ((inp ++ text).length = n + m) := by
    show _ = _
    rw [List.length_append, h2, hm]
  clear h1 h2 h5 h7 hR hnr hcr hcrm hT hm hG hX hRR
  obtain ⟨i0, hi0, hz0, hz1, hz2⟩ := info_parts in_info
  go_enter Try.func21, Try.ntmps21
  go_upto_region 5 with (first
    | (at_builtin
       refine wpList_append_row _ rfl (.tmp 13) (.tmp 17) _ rfl w.heap.size 3 i0 _ 1 8 Try.underlying31 hi0 hz0 hz1 hz2 rfl (by omega) (.slice none 0 0) 0 (ints []) rfl (own_nil _) _ _ n c (ints inp) rfl (by rw [ints_len, HN.out, Nat.mul_one]) HIN.out (ints_one _) (by simp only [maxLen]; omega) (by omega) (Nat.le_refl _) ?_
       intro v w1 o1 g1 t1
       rw [← ints_append, List.nil_append, Nat.zero_add] at o1
       obtain ⟨A1, c1, rfl⟩ := ow_slice (m := n) o1 rfl
       have HO1 := Lib.hid o1
       have G1 := Lib.hid g1
       have HG1 : Hid (Blk w1 g 73 (refC Ar nr cr ah A n c p true)) := bk_grown HG.out g1 (by simp [Value.ownBlock])
       have hs1 := g1.size
       clear o1 g1 t1))
  have HB1 : Hid (Below w.heap.size w w1) := (Below.refl _ _).grown G1.out (Nat.le_refl _) (fun x hx => by simp [Value.ownBlock] at hx)
  have HT1 := Lib.hid (HT.out.below (HB1.out.mono (by omega)))
  go_upto_region 6 with (first
    | (at_builtin
       refine wpList_append_row _ rfl (.tmp 19) (.tmp 20) _ rfl w.heap.size 3 i0 _ 1 8 Try.underlying31 hi0 hz0 hz1 hz2 rfl (by omega) (.slice A1 n c1) n (ints inp) rfl HO1.out _ _ m ct (ints text) rfl (by rw [ints_len, HM.out, Nat.mul_one]) HT1.out (ints_one _) (by simp only [maxLen]; omega) (by omega) hs1 ?_
       intro v w2 o1 g1 t1
       rw [← ints_append] at o1
       obtain ⟨A2, c2, rfl⟩ := ow_slice (m := n + m) o1 rfl
       have HO2 := Lib.hid o1
       have HB2 : Hid (Below w.heap.size w w2) := HB1.out.grown g1 hs1 (fun x hx => own_base HO1.out x hx)
       have HG2 : Hid (Blk w2 g 73 (refC Ar nr cr ah A n c p true)) := HG.out.after HB2.out
       clear o1 g1 t1))
  obtain ⟨y0, y1, y2, y3, y4⟩ := ref5 HG2.out
  have f2 := HG2.out.free 2
  have hl2 := HG2.out.lt
  have hs2 := HB2.out.size
  obtain ⟨w3, hw3, HG3, HF3, HO3⟩ : ∃ v, v = w2.setCell ⟨g, 2, none⟩ (.slice A2 (n + m) c2) ∧ Hid (Blk v g 73 (refC Ar nr cr ah A2 (n + m) c2 p true)) ∧ Hid (Fr w v g) ∧ Hid (v.ownsRow w.heap.size 3 1 (.slice A2 (n + m) c2) (n + m) (ints (inp ++ text))) :=
    ⟨_, rfl, HG2.out.set_ 2 _, ((Fr.refl w g).after HB2.out hg).set 2 _, ow_set HO2.out (p := ⟨g, 2, none⟩) hg⟩
  go_upto_region 7 with fail
  rw [← hw3]
  clear hw3 y0 y1 y2 y3 y4 f2 hl2 e0 e1 e2 e3 e4
  have HRW : Hid (RulesAt (era w (· = g)) w.heap.size Ar D) := (HR.out.era_below (E := (· = g)) (fun b (h : b = g) => by omega)).more (by omega)
  have HAL3 : Hid (Row (era w3 (· = g)) w3.heap.size A2 (ints (inp ++ text))) := (ow_row HO3.out).1.era_new (own_new HO3.out) (fun x (h : x = g) => by omega)
  have HAX3 : Hid (Row (era w3 (fun x => x < w.heap.size)) w3.heap.size A2 (ints (inp ++ text))) := (ow_row HO3.out).1.era_new (own_new HO3.out) (fun x h => h)
  have hs3 := HF3.out.size
  have HRU3 : Hid (RulesAt (era w3 (· = g)) w3.heap.size Ar D) := (HRW.out.era_keep (E' := (· = g)) (fun b hb hE => HF3.out.2 b hb hE) (fun _ _ h => h)).more hs3
  obtain ⟨hc2, hc2m⟩ := (ow_row HO3.out).2
  unfold maxLen at hc2m
  obtain ⟨N, hN⟩ : ∃ N, n + m = N := ⟨_, rfl⟩
  have hpN : p ≤ N := by omega
  rw [hN] at HG3 HO3 HLEN hc2 hl ⊢
  have HGE := Lib.hid HG3.out
  clear hN HO3
  go_wp2
  go_loopw [7] (fun vo wr => ∃ (q n0 c0 : Nat) (A0 : Option Addr) (out0 : List Int), q ≤ N ∧ vo = .slice A0 n0 c0 ∧ n0 ≤ 16 * q ∧ Hid (out0.length = n0) ∧ Hid (out0 ++ (stS D (inp ++ text) ah q).1 = ro ∧ (stS D (inp ++ text) ah q).2 = p') ∧ Hid (wr.ownsRow w3.heap.size 3 1 (.slice A0 n0 c0) n0 (ints out0)) ∧ Hid (Blk wr g 73 (refC Ar nr cr ah A2 N c2 q true)) ∧ Hid (Fr w3 wr g)) (fun _ wr => N - atRf wr g)
  case atStart => exact ⟨p, 0, 0, none, [], hpN, rfl, by omega, rfl, ⟨by rw [HRS.out]; rfl, by rw [HRS.out]⟩, own_nil _, HG3, Fr.refl _ _⟩
  case round =>
    obtain ⟨q, n0, c0, A0, out0, hq, rfl, hn0, HL0, HOUT, HO, HGr, HF⟩ := hrel
    have hsr := HF.out.size
    have hg3 : g < w3.heap.size := by omega
    obtain ⟨y0, y1, y2, y3, y4⟩ := ref5 HGr.out
    by_cases hcond : q + ah ≤ N
    · have kc : (ah : Int) ≤ (N : Int) - (q : Int) := by omega
      have kd : decide ((ah : Int) ≤ (N : Int) - (q : Int)) = true := decide_eq_true kc
      have kw : IntKind.i64.wrap ((N : Int) - (q : Int)) = (N : Int) - (q : Int) := IntWalk.i64_in _ (by omega)
      obtain ⟨i, mm, hst⟩ := step_ex D (inp ++ text) q
      have hm1 := step_pos HDD.out.mat hst
      have hm2 := step_in (by rw [HLEN.out]; omega) hst
      rw [HLEN.out] at hm2
      have HNX := Lib.hid (stS_step (h := ah) HDD.out.mat h1a (by rw [HLEN.out]; exact hcond) hst)
      have HALr : Hid (Row (era wr (· = g)) wr.heap.size A2 (ints (inp ++ text))) := (HAL3.out.era_keep (E' := (· = g)) (fun b hb hE => HF.out.2 b hb hE) (fun _ _ h => h)).more hsr
      have HRUr : Hid (RulesAt (era wr (· = g)) wr.heap.size Ar D) := (HRU3.out.era_keep (E' := (· = g)) (fun b hb hE => HF.out.2 b hb hE) (fun _ _ h => h)).more hsr
      have HSTEP : Hid (∀ k, Calls Try.prog 41 #[.pointer (some ⟨g, 0, none⟩)] (wr.drewN k) (RetS1 (wr.drewN k) g Ar nr cr ah A2 N c2 (q + mm.toNat) true (writS D (inp ++ text) q i))) := fun k => step52_any g Ar nr cr ah A2 N c2 q true D (inp ++ text) (wr.drewN k) HGr.out HALr.out HLEN.out hc2 hc2m HRUr.out HNR.out HCR.out.1 HCR.out.2 HDD.out.1.2.1 HDD.out.1.1 (by omega) hl i mm hst _ rfl
      obtain ⟨mn, rfl⟩ : ∃ mn : Nat, mm = (mn : Int) := ⟨mm.toNat, by omega⟩
      rw [Int.toNat_natCast] at HSTEP HNX
      clear hst
      go_wp2
      refine wp_region_tree (fun w' => Blk w' g 73 (refC Ar nr cr ah A2 N c2 q true)) (.float 0 (.float 1 (.float 2 (.float 3 (.float 4 (.float 5 (.float 6 (.float 7 (.float 8 (.float 9 (.float 10 (.float 11 (.float 12 (.float 13 (.float 14 .done))))))))))))))) (by kernel_rfl) (by kernel_rfl) (fun _ _ d _ _ h => by cases d <;> exact h) HGr.out ?_
      repeat (first
        | (refine wpTr_fskip (by simp only [List.getElem?_toArray, List.getElem?_cons_zero, List.getElem?_cons_succ]; rfl) (by rfl) ?_
           simp only [Act.put, List.setIfInBounds_toArray, List.set_cons_zero, List.set_cons_succ])
        | (refine wpTr_float (v := ?_) (by simp only [List.getElem?_toArray, List.getElem?_cons_zero, List.getElem?_cons_succ]; rfl) (by rfl) (fun w' hS => ?_) ?_
           rotate_left
           ((obtain ⟨e0', e1', e2', e3', e4'⟩ := ref5 hS; have hlS := hS.lt); go_simp; first | done | rfl)
           simp only [Act.put, List.setIfInBounds_toArray, List.set_cons_zero, List.set_cons_succ]))
      refine wpTr_done ?_
      go_wp2_with fail
      refine (HSTEP.out 1).mono ?_
      rintro e w5 ⟨A5, n5, c5, rfl, hn5, HL5, HR5, HG5, HF5⟩
      have HF5' : Hid (Fr wr w5 g) := ⟨⟨HF5.out.1.os, HF5.out.1.tape, HF5.out.1.output, HF5.out.1.size, HF5.out.1.block⟩, HF5.out.2⟩
      have HFw5 : Hid (Fr w3 w5 g) := ⟨HF.out.1.trans HF5'.out.1, fun b hb hE => (HF5'.out.2 b (by omega) hE).trans (HF.out.2 b hb hE)⟩
      have HO5 := Lib.hid (own_keepX HO.out (fun x hx hlt => HF5'.out.2 x hlt (fun e => by have := own_base HO.out x hx; omega)))
      have HRS5 := Lib.hid HR5.out.of_era
      have hs5 := HFw5.out.size
      go_wp2_with (first
        | (at_builtin
           refine wpList_append_row _ rfl (.tmp 41) (.tmp 43) _ rfl w3.heap.size 3 i0 _ 1 8 Try.underlying31 hi0 hz0 hz1 hz2 rfl (by omega) (.slice A0 n0 c0) n0 (ints out0) rfl HO5.out _ _ n5 c5 (ints (writS D (inp ++ text) q i)) rfl (by rw [ints_len, HL5.out, Nat.mul_one]) HRS5.out (ints_one _) (by simp only [maxLen]; omega) (by omega) hs5 ?_
           intro v w6 o1 g1 t1
           rw [← ints_append] at o1
           obtain ⟨A6, c6, rfl⟩ := ow_slice (m := n0 + n5) o1 rfl
           have HO6 := Lib.hid o1
           have HG6 : Hid (Blk w6 g 73 (refC Ar nr cr ah A2 N c2 (q + mn) true)) := bk_grown HG5.out g1 (fun e => by have := own_base HO5.out g e.symm; omega)
           have HF6 : Hid (Fr w3 w6 g) := HFw5.out.own g1 (Nat.le_refl _) (fun x hx => own_base HO5.out x hx) hg3
           clear o1 g1 t1))
      have HL6 : Hid ((out0 ++ writS D (inp ++ text) q i).length = n0 + n5) := by
        show _ = _
        rw [List.length_append, HL0.out, HL5.out]
      have HOUT6 : Hid ((out0 ++ writS D (inp ++ text) q i) ++ (stS D (inp ++ text) ah (q + mn)).1 = ro ∧ (stS D (inp ++ text) ah (q + mn)).2 = p') := by
        have h := HOUT.out
        rw [HNX.out] at h
        refine ⟨?_, h.2⟩
        rw [← h.1]
        simp
      go_roundw
      case rel => exact ⟨q + mn, n0 + n5, c6, A6, _, by omega, rfl, by omega, HL6, HOUT6, HO6, HG6, HF6⟩
      case measure => rw [atRf_blk HG6.out rfl, atRf_blk HGr.out rfl]; omega
    · have kd : decide ((ah : Int) ≤ (N : Int) - (q : Int)) = false := decide_eq_false (by omega)
      have kd2 : ¬ (ah : Int) ≤ (N : Int) - (q : Int) := by omega
      have kw : IntKind.i64.wrap ((N : Int) - (q : Int)) = (N : Int) - (q : Int) := IntWalk.i64_in _ (by omega)
      have HST := Lib.hid (stS_stop (D := D) (h := ah) (p := q) (inp := inp ++ text) (by rw [HLEN.out]; exact hcond))
      go_wp2
      refine wp_region_tree (fun w' => Blk w' g 73 (refC Ar nr cr ah A2 N c2 q true)) (.float 0 (.float 1 (.float 2 (.float 3 (.float 4 (.float 5 (.float 6 (.float 7 (.float 8 (.float 9 (.float 10 (.float 11 (.float 12 (.float 13 (.float 14 .done))))))))))))))) (by kernel_rfl) (by kernel_rfl) (fun _ _ d _ _ h => by cases d <;> exact h) HGr.out ?_
      repeat (first
        | (refine wpTr_fskip (by simp only [List.getElem?_toArray, List.getElem?_cons_zero, List.getElem?_cons_succ]; rfl) (by rfl) ?_
           simp only [Act.put, List.setIfInBounds_toArray, List.set_cons_zero, List.set_cons_succ])
        | (refine wpTr_float (v := ?_) (by simp only [List.getElem?_toArray, List.getElem?_cons_zero, List.getElem?_cons_succ]; rfl) (by rfl) (fun w' hS => ?_) ?_
           rotate_left
           ((obtain ⟨e0', e1', e2', e3', e4'⟩ := ref5 hS; have hlS := hS.lt); go_simp; first | done | rfl)
           simp only [Act.put, List.setIfInBounds_toArray, List.set_cons_zero, List.set_cons_succ]))
      refine wpTr_done ?_
      go_wp2
      go_ret2
      have ho := HOUT.out
      rw [HST.out] at ho
      simp only [List.append_nil] at ho
      obtain ⟨rfl, rfl⟩ := ho
      have HFA : Fr w wr.drew g := ⟨(HF3.out.1.trans HF.out.1).drew, fun b hb hE => (HF.out.2 b (by omega) hE).trans (HF3.out.2 b hb hE)⟩
      refine ⟨A0, n0, c0, out0, q, rfl, by omega, HL0, HNEW.out, ?_, ⟨A2, N, c2, HGr.out, HLEN.out, hc2, hc2m, ?_, hq, HXG.out⟩, HFA⟩
      · exact (ow_row HO.out).1.era_new (own_new HO.out) (fun x hx => by omega)
      · refine Row.more (B := w3.heap.size) (HAX3.out.era_keep (fun b hb hE => HF.out.2 b hb (fun e => hE (by omega))) (fun b hb hE => ?_)) hsr
        rcases hE with h | h
        · omega
        · exact HX.out b h
set_option maxRecDepth 100000 in
set_option maxHeartbeats 4000000 in
theorem rclose_any (X : Nat → Prop) (B g : Nat) (Ar : Option Addr) (cr nr bf ah : Nat) (D : List TR) (inp : List Int) (p : Nat) (w : World) (hS : RefAt w X g Ar cr nr ah inp p) (hD : okS D bf ah)
    (hR : RulesAt w B Ar D) (hB : B ≤ g) (hnr : D.length = nr) (hcr : nr ≤ cr) (hcrm : cr ≤ maxLen) (hl : inp.length ≤ 10000) (R : List Int) (hRes : outR D inp p = R) :
    Calls Try.prog 23 #[.pointer (some ⟨g, 0, none⟩)] w fun e w' => ∃ (A' : Option Addr) (n c' : Nat), e = .returned (.tuple #[.slice A' n c', .int .i64 0]) ∧ n ≤ 160000 ∧ Hid (R.length = n) ∧ Hid (Row w' w'.heap.size A' (ints R)) ∧ Hid (Fr w w' g) := by
  obtain ⟨A, N, c, h1, h2, h3, h4, h5, h6, h7⟩ := hS
  have HG := Lib.hid h1
  have HLEN := Lib.hid h2
  have HNR := Lib.hid hnr
  have HCR := Lib.hid (And.intro hcr hcrm)
  have HDD := Lib.hid hD
  have HRS := Lib.hid hRes
  have hg := h1.lt
  rw [h2] at hl
  have hc2m := h4
  unfold maxLen at h4
  have HAL : Hid (Row (era w (· = g)) w.heap.size A (ints inp)) := h5.era_keep (fun _ _ _ => rfl) (fun b _ h => .inl h)
  have HRU : Hid (RulesAt (era w (· = g)) w.heap.size Ar D) := (hR.era_below (E := (· = g)) (fun b (h : b = g) => by omega)).more (by omega)
  obtain ⟨e0, e1, e2, e3, e4⟩ := ref5 h1
  clear h1 h2 h5 h7 hR hnr hcr hcrm hRes
  obtain ⟨i0, hi0, hz0, hz1, hz2⟩ := info_parts in_info
  go_enter Try.func23, Try.ntmps23
  go_wp2
  go_loopw [4] (fun vo wr => ∃ (q n0 c0 : Nat) (A0 : Option Addr) (out0 : List Int), q ≤ N ∧ vo = .slice A0 n0 c0 ∧ n0 ≤ 16 * q ∧ Hid (out0.length = n0) ∧ Hid (out0 ++ outR D inp q = R) ∧ Hid (wr.ownsRow w.heap.size 3 1 (.slice A0 n0 c0) n0 (ints out0)) ∧ Hid (Blk wr g 73 (refC Ar nr cr ah A N c q true)) ∧ Hid (Fr w wr g)) (fun _ wr => N - atRf wr g)
  case atStart => exact ⟨p, 0, 0, none, [], h6, rfl, by omega, rfl, HRS, own_nil _, HG, Fr.refl _ _⟩
  case round =>
    obtain ⟨q, n0, c0, A0, out0, hq, rfl, hn0, HL0, HOUT, HO, HGr, HF⟩ := hrel
    have hsr := HF.out.size
    obtain ⟨y0, y1, y2, y3, y4⟩ := ref5 HGr.out
    by_cases hcond : q < N
    · have kd : decide (q < N) = true := decide_eq_true hcond
      obtain ⟨i, mm, hst⟩ := step_ex D inp q
      have hm1 := step_pos HDD.out.mat hst
      have hm2 := step_in (by rw [HLEN.out]; omega) hst
      rw [HLEN.out] at hm2
      have HNX := Lib.hid (outR_step (text := inp) HDD.out.mat (by rw [HLEN.out]; exact hcond) hst)
      have HALr : Hid (Row (era wr (· = g)) wr.heap.size A (ints inp)) := (HAL.out.era_keep (E' := (· = g)) (fun b hb hE => HF.out.2 b hb hE) (fun _ _ h => h)).more hsr
      have HRUr : Hid (RulesAt (era wr (· = g)) wr.heap.size Ar D) := (HRU.out.era_keep (E' := (· = g)) (fun b hb hE => HF.out.2 b hb hE) (fun _ _ h => h)).more hsr
      have HSTEP : Hid (∀ k, Calls Try.prog 41 #[.pointer (some ⟨g, 0, none⟩)] (wr.drewN k) (RetS1 (wr.drewN k) g Ar nr cr ah A N c (q + mm.toNat) true (writS D inp q i))) := fun k => step52_any g Ar nr cr ah A N c q true D inp (wr.drewN k) HGr.out HALr.out HLEN.out h3 hc2m HRUr.out HNR.out HCR.out.1 HCR.out.2 HDD.out.1.2.1 HDD.out.1.1 (by omega) hl i mm hst _ rfl
      obtain ⟨mn, rfl⟩ : ∃ mn : Nat, mm = (mn : Int) := ⟨mm.toNat, by omega⟩
      rw [Int.toNat_natCast] at HSTEP HNX
      clear hst
      go_wp2
      refine wp_region_tree (fun w' => Blk w' g 73 (refC Ar nr cr ah A N c q true)) (.float 0 (.float 1 (.float 2 (.float 3 (.float 4 (.float 5 (.float 6 (.float 7 (.float 8 (.float 9 .done)))))))))) (by kernel_rfl) (by kernel_rfl) (fun _ _ d _ _ h => by cases d <;> exact h) HGr.out ?_
      repeat (first
        | (refine wpTr_fskip (by simp only [List.getElem?_toArray, List.getElem?_cons_zero, List.getElem?_cons_succ]; rfl) (by rfl) ?_
           simp only [Act.put, List.setIfInBounds_toArray, List.set_cons_zero, List.set_cons_succ])
        | (refine wpTr_float (v := ?_) (by simp only [List.getElem?_toArray, List.getElem?_cons_zero, List.getElem?_cons_succ]; rfl) (by rfl) (fun w' hS => ?_) ?_
           rotate_left
           ((obtain ⟨e0', e1', e2', e3', e4'⟩ := ref5 hS; have hlS := hS.lt); go_simp; first | done | rfl)
           simp only [Act.put, List.setIfInBounds_toArray, List.set_cons_zero, List.set_cons_succ]))
      refine wpTr_done ?_
      go_wp2_with fail
      refine (HSTEP.out 1).mono ?_
      rintro e w5 ⟨A5, n5, c5, rfl, hn5, HL5, HR5, HG5, HF5⟩
      have HF5' : Hid (Fr wr w5 g) := ⟨⟨HF5.out.1.os, HF5.out.1.tape, HF5.out.1.output, HF5.out.1.size, HF5.out.1.block⟩, HF5.out.2⟩
      have HFw5 : Hid (Fr w w5 g) := ⟨HF.out.1.trans HF5'.out.1, fun b hb hE => (HF5'.out.2 b (by omega) hE).trans (HF.out.2 b hb hE)⟩
      have HO5 := Lib.hid (own_keepX HO.out (fun x hx hlt => HF5'.out.2 x hlt (fun e => by have := own_base HO.out x hx; omega)))
      have HRS5 := Lib.hid HR5.out.of_era
      have hs5 := HFw5.out.size
      go_wp2_with (first
        | (at_builtin
           refine wpList_append_row _ rfl (.tmp 20) (.tmp 22) _ rfl w.heap.size 3 i0 _ 1 8 Try.underlying31 hi0 hz0 hz1 hz2 rfl (by omega) (.slice A0 n0 c0) n0 (ints out0) rfl HO5.out _ _ n5 c5 (ints (writS D inp q i)) rfl (by rw [ints_len, HL5.out, Nat.mul_one]) HRS5.out (ints_one _) (by simp only [maxLen]; omega) (by omega) hs5 ?_
           intro v w6 o1 g1 t1
           rw [← ints_append] at o1
           obtain ⟨A6, c6, rfl⟩ := ow_slice (m := n0 + n5) o1 rfl
           have HO6 := Lib.hid o1
           have HG6 : Hid (Blk w6 g 73 (refC Ar nr cr ah A N c (q + mn) true)) := bk_grown HG5.out g1 (fun e => by have := own_base HO5.out g e.symm; omega)
           have HF6 : Hid (Fr w w6 g) := HFw5.out.own g1 (Nat.le_refl _) (fun x hx => own_base HO5.out x hx) hg
           clear o1 g1 t1))
      have HL6 : Hid ((out0 ++ writS D inp q i).length = n0 + n5) := by
        show _ = _
        rw [List.length_append, HL0.out, HL5.out]
      have HOUT6 : Hid ((out0 ++ writS D inp q i) ++ outR D inp (q + mn) = R) := by
        show _ = _
        have h := HOUT.out
        rw [HNX.out] at h
        rw [← h]
        simp
      go_roundw
      case rel => exact ⟨q + mn, n0 + n5, c6, A6, _, by omega, rfl, by omega, HL6, HOUT6, HO6, HG6, HF6⟩
      case measure => rw [atRf_blk HG6.out rfl, atRf_blk HGr.out rfl]; omega
    · have kd : decide (q < N) = false := decide_eq_false hcond
      have HEND : Hid (outR D inp q = []) := outR_end (by rw [HLEN.out]; omega)
      have f4 := HGr.out.free 4
      have hlr := HGr.out.lt
      go_wp2
      refine wp_region_tree (fun w' => Blk w' g 73 (refC Ar nr cr ah A N c q true)) (.float 0 (.float 1 (.float 2 (.float 3 (.float 4 (.float 5 (.float 6 (.float 7 (.float 8 (.float 9 .done)))))))))) (by kernel_rfl) (by kernel_rfl) (fun _ _ d _ _ h => by cases d <;> exact h) HGr.out ?_
      repeat (first
        | (refine wpTr_fskip (by simp only [List.getElem?_toArray, List.getElem?_cons_zero, List.getElem?_cons_succ]; rfl) (by rfl) ?_
           simp only [Act.put, List.setIfInBounds_toArray, List.set_cons_zero, List.set_cons_succ])
        | (refine wpTr_float (v := ?_) (by simp only [List.getElem?_toArray, List.getElem?_cons_zero, List.getElem?_cons_succ]; rfl) (by rfl) (fun w' hS => ?_) ?_
           rotate_left
           ((obtain ⟨e0', e1', e2', e3', e4'⟩ := ref5 hS; have hlS := hS.lt); go_simp; first | done | rfl)
           simp only [Act.put, List.setIfInBounds_toArray, List.set_cons_zero, List.set_cons_succ]))
      refine wpTr_done ?_
      obtain ⟨w5, hw5, HB5⟩ : ∃ v, v = wr.drew ∧ Hid (Below wr.heap.size wr v) := ⟨_, rfl, (Below.refl _ _).drew⟩
      rw [← hw5]
      clear hw5
      have HG5 := Lib.hid (HGr.out.after HB5.out)
      have HF5 := Lib.hid (HF.out.after HB5.out hg)
      have HO5 := Lib.hid (ow_below HO.out HB5.out)
      obtain ⟨z0, z1, z2, z3, z4⟩ := ref5 HG5.out
      have f5 := HG5.out.free 4
      have hl5 := HG5.out.lt
      go_wp2
      go_ret2
      have ho := HOUT.out
      rw [HEND.out, List.append_nil] at ho
      subst ho
      refine ⟨A0, n0, c0, rfl, by omega, HL0, (ow_row (ow_set HO5.out (p := ⟨g, 4, none⟩) hg)).1, HF5.out.set 4 _⟩
end Go.Proofs.Ytjohoohdjlajcaa
