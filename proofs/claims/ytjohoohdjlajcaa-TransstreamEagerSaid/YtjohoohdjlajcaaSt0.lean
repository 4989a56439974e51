/-
  (*transstream.buffer).rest, (*transstream.Stream).steps.
-/
import Derived.Test.YtjohoohdjlajcaaTt8
import Derived.Test.YtjohoohdjlajcaaTu0
import Derived.Test.YtjohoohdjlajcaaEra
import Derived.Test.YtjohoohdjlajcaaSd0
import Derived.Test.YtjohoohdjlajcaaTree
namespace Go.UtYtjohoohdjlajcaa
open Go.RowKit
/-- only block g, and newer blocks, have changed -/
def Fr (w w' : World) (g : Nat) : Prop := Below g w w' ∧ ∀ b, b < w.heap.size → b ≠ g → w'.heap[b]? = w.heap[b]?
section
variable {w w' w'' : World} {g : Nat}
theorem Fr.refl (w : World) (g : Nat) : Fr w w g := ⟨Below.refl _ _, fun _ _ _ => rfl⟩
theorem Fr.size (h : Fr w w' g) : w.heap.size ≤ w'.heap.size := h.1.size
theorem Fr.after (h : Fr w w' g) (hb : Below w'.heap.size w' w'') (hg : g < w.heap.size) : Fr w w'' g := by
  have hs := h.size
  exact ⟨h.1.trans (hb.mono (by omega)), fun b h1 h2 => (hb.block b (by omega)).trans (h.2 b h1 h2)⟩
theorem Fr.own (h : Fr w w' g) {base : Nat} {row : Option Nat} (hg : w'.grownBy w'' row) (hb : w.heap.size ≤ base) (hr : ∀ x, row = some x → base ≤ x) (hgs : g < w.heap.size) : Fr w w'' g := by
  have hs := h.size
  refine ⟨h.1.grown hg (by omega) (fun x hx => by have := hr x hx; omega), fun b h1 h2 => ?_⟩
  rw [hg.block b (by omega) (fun e => by have := hr b e.symm; omega)]
  exact h.2 b h1 h2
theorem Fr.set (h : Fr w w' g) (k : Nat) (u : Value) : Fr w (w'.setCell ⟨g, k, none⟩ u) g :=
  ⟨h.1.setCell (p := ⟨g, k, none⟩) (Nat.le_refl _) u, fun b h1 h2 => (Below.heap_setCell w' ⟨g, k, none⟩ u b h2).trans (h.2 b h1 h2)⟩
theorem Fr.row {A : Option Addr} {vs : List Value} (h : Fr w w' g) (hr : Row (era w (· = g)) w.heap.size A vs) : Row w' w.heap.size A vs := (hr.era_keep (E' := (· = g)) (fun b h1 h2 => h.2 b h1 h2) (fun _ _ h => h)).of_era
theorem Fr.rules {A : Option Addr} {D : List TR} (h : Fr w w' g) (hr : RulesAt (era w (· = g)) w.heap.size A D) : RulesAt w' w.heap.size A D := (hr.era_keep (E' := (· = g)) (fun b h1 h2 => h.2 b h1 h2) (fun _ _ h => h)).of_era
theorem Fr.below {B : Nat} (h : Fr w w' g) (hB : B ≤ g) : Below B w w' := h.1.mono hB
end
end Go.UtYtjohoohdjlajcaa
namespace Go.Proofs.Ytjohoohdjlajcaa
open Go.RowKit Go.UtYtjohoohdjlajcaa
attribute [local go_sem high] cut_l cut_lh cutA_zero
set_option maxRecDepth 100000 in
theorem rest_any (g : Nat) (A : Option Addr) (n c q : Nat) (cs : Array Value) (w : World) (hG : Blk w g 53 cs) (h0 : cs[0]? = some (.slice A n c)) (h1 : cs[1]? = some (.int .i64 (q : Int))) (hq : q ≤ n) (_hc : n ≤ c) :
    Calls Try.prog 40 #[.pointer (some ⟨g, 0, none⟩)] w fun e w' => e = .returned (.slice (cutA A c q 1) (n - q) (c - q)) ∧ ∃ m, w' = w.drewN m := by
  have e0 := (hG.cell 0).trans h0
  have e1 := (hG.cell 1).trans h1
  have hlt := hG.lt
  have k1 : (0 : Int) ≤ (q : Int) := by omega
  have k2 : (q : Int) ≤ (n : Int) := by omega
  clear hG h0 h1
  go_enter Try.func40, Try.ntmps40
  go_wp2
  go_quiet (fail)
  go_wp2
  go_ret
  exact ⟨rfl, _, rfl⟩
/-- where the stream stands -/
def atOf (w : World) (g : Nat) : Nat := (intOf ((w.cell? ⟨g, 1, none⟩).getD undef)).toNat
theorem atOf_blk {w : World} {g q : Nat} {cs : Array Value} (h : Blk w g 53 cs) (h1 : cs[1]? = some (.int .i64 (q : Int))) : atOf w g = q := by
  unfold atOf
  rw [h.cell 1, h1]
  simp [intOf]
/-- the six cells of a stream -/
def strC (A : Option Addr) (n c q : Nat) (Ar : Option Addr) (nr cr bf ah : Nat) (op : Bool) : Array Value := #[.slice A n c, .int .i64 (q : Int), .slice Ar nr cr, .int .i64 (bf : Int), .int .i64 (ah : Int), .bool op]
theorem str6 {w : World} {g t : Nat} {A : Option Addr} {n c q : Nat} {Ar : Option Addr} {nr cr bf ah : Nat} {op : Bool} (h : Blk w g t (strC A n c q Ar nr cr bf ah op)) :
    w.cell? ⟨g, 0, none⟩ = some (.slice A n c) ∧ w.cell? ⟨g, 1, none⟩ = some (.int .i64 (q : Int)) ∧ w.cell? ⟨g, 2, none⟩ = some (.slice Ar nr cr) ∧ w.cell? ⟨g, 3, none⟩ = some (.int .i64 (bf : Int)) ∧ w.cell? ⟨g, 4, none⟩ = some (.int .i64 (ah : Int)) ∧ w.cell? ⟨g, 5, none⟩ = some (.bool op) :=
  ⟨h.cell 0, h.cell 1, h.cell 2, h.cell 3, h.cell 4, h.cell 5⟩
/-- the call returns what the steps write; the stream stands behind them -/
def RetSteps (w : World) (g : Nat) (A : Option Addr) (n c : Nat) (Ar : Option Addr) (nr cr bf ah : Nat) (op : Bool) (R : List Int × Nat) (e : Ending) (w' : World) : Prop :=
  ∃ A' c', e = .returned (.slice A' R.1.length c') ∧ w'.ownsRow w.heap.size 3 1 (.slice A' R.1.length c') R.1.length (ints R.1) ∧ Blk w' g 53 (strC A n c R.2 Ar nr cr bf ah op) ∧ Fr w w' g
set_option maxRecDepth 100000 in
set_option maxHeartbeats 4000000 in
theorem steps_any (g : Nat) (A : Option Addr) (n c q : Nat) (Ar : Option Addr) (nr cr bf ah : Nat) (op : Bool) (h : Nat) (D : List TR) (items : List Int) (w : World) (hG : Blk w g 53 (strC A n c q Ar nr cr bf ah op))
    (hA : Row (era w (· = g)) w.heap.size A (ints items)) (hn : items.length = n) (hc : n ≤ c) (_hcm : c ≤ maxLen) (hR : RulesAt (era w (· = g)) w.heap.size Ar D) (hnr : D.length = nr) (hcr : nr ≤ cr) (hcrm : cr ≤ maxLen) (hs : smR D) (hd : dataL D = D) (hq : q ≤ n) (hl : n ≤ 10000) (h1 : 1 ≤ h) (hh : h ≤ 100000) (R : List Int × Nat) (hRes : stS D items h q = R) :
    Calls Try.prog 31 #[.pointer (some ⟨g, 0, none⟩), .int .i64 (h : Int)] w (RetSteps w g A n c Ar nr cr bf ah op R) := by
  have HA := Lib.hid hA
  have HR := Lib.hid hR
  have HS := Lib.hid hs
  have HD := Lib.hid hd
  have HN := Lib.hid hn
  have HNR := Lib.hid hnr
  have HCR := Lib.hid (And.intro hcr hcrm)
  have HRS := Lib.hid hRes
  have HMO := Lib.hid (data_mat D)
  have HOK := Lib.hid (data_ok (l := D))
  have h200 := data_200 D
  rw [hd] at HMO HOK h200
  rw [hnr] at h200
  have hg := hG.lt
  have HG := Lib.hid hG
  unfold maxLen at _hcm
  clear hA hR hs hd hn hnr hcr hcrm hRes hG
  obtain ⟨i0, hi0, hz0, hz1, hz2⟩ := info_parts in_info
  go_enter Try.func31, Try.ntmps31
  go_wp2
  go_loopw [5] (fun res wr => ∃ (q' n0 c0 : Nat) (A0 : Option Addr) (out : List Int), q' ≤ n ∧ res = .slice A0 n0 c0 ∧ n0 ≤ 16 * q' ∧ Hid (out ++ (stS D items h q').1 = R.1 ∧ (stS D items h q').2 = R.2) ∧ Hid (wr.ownsRow w.heap.size 3 1 (.slice A0 n0 c0) n0 (ints out)) ∧ Hid (Blk wr g 53 (strC A n c q' Ar nr cr bf ah op)) ∧ Hid (Fr w wr g)) (fun _ wr => n - atOf wr g)
  case atStart => exact ⟨q, 0, 0, none, [], hq, rfl, by omega, ⟨by rw [HRS.out]; rfl, by rw [HRS.out]⟩, own_nil _, HG, Fr.refl _ _⟩
  case round =>
    obtain ⟨wo, hwo⟩ : ∃ x, x = wr := ⟨_, rfl⟩
    subst hwo
    obtain ⟨q', n0, c0, A0, out, hq', rfl, hn0, HOUT, HO, HGo, HF⟩ := hrel
    have hfs := HF.out.size
    have hgo : g < wo.heap.size := by omega
    have HREST := Lib.hid (rest_any g A n c q' _ wo HGo.out rfl rfl hq' hc)
    obtain ⟨e0, e1, e2, e3, e4, e5⟩ := str6 HGo.out
    by_cases hcond : q' + h ≤ n
    · have kc : (h : Int) ≤ ((n - q' : Nat) : Int) := by omega
      have HROW := Lib.hid (HF.out.row HA.out)
      have HRUL := Lib.hid (HF.out.rules HR.out)
      have HSTEP := fun (u : World) (hu : Below wo.heap.size wo u) => pStep_any Ar A cr c D items (q' : Int) u ((HRUL.out.more hfs).below hu).lt HS.out (by rw [HNR.out]; exact HCR.out.1) HCR.out.2 (by rw [HNR.out]; omega) ((HROW.out.more hfs).below hu).lt (by rw [HN.out]; omega)
      rw [HN.out, HNR.out, HD.out] at HSTEP
      replace HSTEP := Lib.hid HSTEP
      obtain ⟨i, m0, hst⟩ := step_ex D items q'
      have HST := Lib.hid hst
      have HSI : Hid (StepIs D items (q' : Int) i m0) := .inl ⟨by omega, by rw [HN.out]; omega, hst⟩
      have hm1 := step_pos HMO.out hst
      have hm2 := step_in (by rw [HN.out]; omega) hst
      rw [HN.out] at hm2
      have HNX := Lib.hid (stS_step (h := h) HMO.out h1 (by rw [HN.out]; exact hcond) hst)
      obtain ⟨bt, ot, x, rfl, hbt, hxt, cct⟩ := HROW.out.at_int (k := q') (by rw [HN.out]; omega)
      go_wp2_with (first | (go_at_call 40; refine HREST.out.mono ?_; rintro e w' ⟨rfl, m1, rfl⟩))
      have HBm : Hid (Below wo.heap.size wo (wo.drewN m1).drew) := (below_drewN (Below.refl _ _) m1).drew
      refine wp_region_tree (fun w' => Blk w' g 53 (strC (some ⟨bt, ot, none⟩) n c q' Ar nr cr bf ah op)) (.float 0 (.float 1 (.float 2 (.float 3 (.float 4 (.float 5 (.float 6 (.float 7 (.float 8 (.float 9 (.float 10 (.float 11 (.float 12 (.float 13 (.one 14 (.float 15 (.float 16 (.float 17 (.float 18 (.float 19 .done)))))))))))))))))))) (by kernel_rfl) (by kernel_rfl) (fun _ _ d _ _ h => by cases d <;> exact h) HGo.out ?_
      obtain ⟨wd, hwd⟩ : ∃ x, x = (wo.drewN m1).drew := ⟨_, rfl⟩
      rw [← hwd] at HBm ⊢
      clear hwd
      repeat (first
        | (refine wpTr_fskip (by simp only [List.getElem?_toArray, List.getElem?_cons_zero, List.getElem?_cons_succ]; rfl) (by rfl) ?_
           simp only [Act.put, List.setIfInBounds_toArray, List.set_cons_zero, List.set_cons_succ])
        | (refine wpTr_float (v := ?_) (by simp only [List.getElem?_toArray, List.getElem?_cons_zero, List.getElem?_cons_succ]; rfl) (by rfl) (fun w' hS => ?_) ?_
           rotate_left
           ((obtain ⟨e0', e1', e2', e3', e4', e5'⟩ := str6 hS; have hlS := hS.lt); go_simp; first | done | rfl)
           simp only [Act.put, List.setIfInBounds_toArray, List.set_cons_zero, List.set_cons_succ]))
      refine wpTr_one ?_
      refine stepTr_K (by simp only [List.getElem?_toArray, List.getElem?_cons_zero, List.getElem?_cons_succ]; rfl) (by rfl) (fun K hK => ?_)
      go_simp
      refine (HSTEP.out wd HBm.out).mono ?_
      rintro e w2 ⟨i', m', rfl, hst2, hb2⟩
      obtain ⟨rfl, rfl⟩ := stepIs_unique HSI.out hst2
      have HB2 : Hid (Below wo.heap.size wo w2) := HBm.out.trans (hb2.mono HBm.out.size)
      have HG2 := Lib.hid (HGo.out.after HB2.out)
      have HF2 := Lib.hid (HF.out.after HB2.out hg)
      have HO2 := Lib.hid (ow_below HO.out HB2.out)
      refine hK.out _ _ HG2.out ?_
      clear hK K hst2 hb2
      try simp only [Act.put, List.setIfInBounds_toArray, List.set_cons_zero, List.set_cons_succ]
      repeat (first
        | (refine wpTr_fskip (by simp only [List.getElem?_toArray, List.getElem?_cons_zero, List.getElem?_cons_succ]; rfl) (by rfl) ?_
           simp only [Act.put, List.setIfInBounds_toArray, List.set_cons_zero, List.set_cons_succ])
        | (refine wpTr_float (v := ?_) (by simp only [List.getElem?_toArray, List.getElem?_cons_zero, List.getElem?_cons_succ]; rfl) (by rfl) (fun w' hS => ?_) ?_
           rotate_left
           ((skip); go_simp; first | done | rfl)
           simp only [Act.put, List.setIfInBounds_toArray, List.set_cons_zero, List.set_cons_succ]))
      refine wpTr_done ?_
      rcases hst with ⟨rfl, rfl, _⟩ | ⟨k, r, rfl, hk, rfl, happ, _⟩
      · have HO1 : Hid ((out ++ [x]) ++ (stS D items h (q' + 1)).1 = R.1 ∧ (stS D items h (q' + 1)).2 = R.2) := by
          have := HOUT.out
          rw [HNX.out, writS_neg D hxt.out] at this
          refine ⟨?_, this.2⟩
          rw [← this.1]
          simp
        go_wp2
        refine wp_region_tree (fun w' => Blk w' g 53 (strC (some ⟨bt, ot, none⟩) n c q' Ar nr cr bf ah op) ∧ w'.cell? ⟨bt, ot + q', none⟩ = some (.int .i64 x)) (.float 0 (.float 1 (.float 2 (.float 3 (.float 4 (.float 5 (.float 6 (.float 7 (.float 8 (.float 9 (.float 10 (.float 11 (.float 12 (.one 13 (.one 14 (.float 15 .done)))))))))))))))) (by kernel_rfl) (by kernel_rfl) (fun _ _ d _ _ h => by cases d <;> exact h) ⟨HG2.out, (HB2.out.cell (p := ⟨bt, ot + q', none⟩) (by show bt < wo.heap.size; omega)).trans cct⟩ ?_
        obtain ⟨wd2, hwd2⟩ : ∃ x, x = w2.drew := ⟨_, rfl⟩
        have HBd2 : Hid (Below w2.heap.size w2 wd2) := by rw [hwd2]; exact (Below.refl _ _).drew
        rw [← hwd2]
        clear hwd2
        have HB3 : Hid (Below wo.heap.size wo wd2) := HB2.out.trans (HBd2.out.mono HB2.out.size)
        have HG3 := Lib.hid (HGo.out.after HB3.out)
        have HF3 := Lib.hid (HF.out.after HB3.out hg)
        have HO3 := Lib.hid (ow_below HO.out HB3.out)
        have kq : (q' : Int) < (n : Int) := by omega
        repeat (first
          | (refine wpTr_fskip (by simp only [List.getElem?_toArray, List.getElem?_cons_zero, List.getElem?_cons_succ]; rfl) (by rfl) ?_
             simp only [Act.put, List.setIfInBounds_toArray, List.set_cons_zero, List.set_cons_succ])
          | (refine wpTr_float (v := ?_) (by simp only [List.getElem?_toArray, List.getElem?_cons_zero, List.getElem?_cons_succ]; rfl) (by rfl) (fun w' hS => ?_) ?_
             rotate_left
             ((obtain ⟨hSG, hSx⟩ := hS; obtain ⟨e0', e1', e2', e3', e4', e5'⟩ := str6 hSG; have hlS := hSG.lt); go_simp; first | done | rfl)
             simp only [Act.put, List.setIfInBounds_toArray, List.set_cons_zero, List.set_cons_succ]))
        refine wpTr_one ?_
        refine stepTr_K (by simp only [List.getElem?_toArray, List.getElem?_cons_zero, List.getElem?_cons_succ]; rfl) (by rfl) (fun K hK => ?_)
        go_simp
        obtain ⟨wl, hwl, HBl, HKL⟩ : ∃ v, v = wd2.alloc (.cells #[.int .i64 x] 3) ∧ Hid (Below wd2.heap.size wd2 v) ∧ Hid (Row v (wd2.heap.size + 1) (some ⟨wd2.heap.size, 0, none⟩) [.int .i64 x]) := ⟨_, rfl, (Below.refl _ _).alloc (Nat.le_refl _) _, row_lit wd2 _ _⟩
        rw [← hwl]
        obtain ⟨lb, hlb⟩ : ∃ y, y = wd2.heap.size := ⟨_, rfl⟩
        rw [← hlb] at HKL ⊢
        clear hwl hlb
        have HFl := Lib.hid (HF3.out.after HBl.out hg)
        have HGl := Lib.hid (HG3.out.after HBl.out)
        have HOl := Lib.hid (ow_below HO3.out HBl.out)
        refine hK.out _ _ ⟨HGl.out, (HFl.out.row HA.out |> fun hr => by obtain ⟨b1, o1, x1, hA1, _, hx1, hc1⟩ := hr.at_int (k := q') (by rw [HN.out]; omega); injection hA1 with hA1; injection hA1 with e6 e7; subst e6 e7; have := hx1.out; rw [hxt.out] at this; injection this with this; subst this; exact hc1)⟩ ?_
        clear hK K
        try simp only [Act.put, List.setIfInBounds_toArray, List.set_cons_zero, List.set_cons_succ]
        refine wpTr_one ?_
        refine stepTr_K (by simp only [List.getElem?_toArray, List.getElem?_cons_zero, List.getElem?_cons_succ]; rfl) (by rfl) (fun K hK => ?_)
        refine wp_append_row _ (.tmp 37) (.tmp 50) _ rfl w.heap.size 3 i0 _ 1 8 Try.underlying31 hi0 hz0 hz1 hz2 rfl (by omega) (.slice A0 n0 c0) n0 (ints (out)) rfl HOl.out _ _ 1 1 [.int .i64 x] rfl rfl HKL.out (ints_one1 _) (by simp only [maxLen]; omega) (by omega) HFl.out.size ?_
        intro q4 w4 o4 g4 t4
        obtain ⟨A4, c4, rfl⟩ := ow_slice (m := n0 + 1) o4 rfl
        rw [← ints_snoc] at o4
        have HF4 : Hid (Fr w w4 g) := HFl.out.own g4 (Nat.le_refl _) (fun x hx => own_base HOl.out x hx) hg
        have HG4 : Hid (Blk w4 g 53 (strC (some ⟨bt, ot, none⟩) n c q' Ar nr cr bf ah op)) := bk_grown HGl.out g4 (fun e => by have := own_base HOl.out g e.symm; omega)
        have HO4 := Lib.hid o4
        clear o4 g4 t4
        refine hK.out _ _ ⟨HG4.out, (HF4.out.row HA.out |> fun hr => by obtain ⟨b1, o1, x1, hA1, _, hx1, hc1⟩ := hr.at_int (k := q') (by rw [HN.out]; omega); injection hA1 with hA1; injection hA1 with e6 e7; subst e6 e7; have := hx1.out; rw [hxt.out] at this; injection this with this; subst this; exact hc1)⟩ ?_
        clear hK K
        try simp only [Act.put, List.setIfInBounds_toArray, List.set_cons_zero, List.set_cons_succ]
        repeat (first
          | (refine wpTr_fskip (by simp only [List.getElem?_toArray, List.getElem?_cons_zero, List.getElem?_cons_succ]; rfl) (by rfl) ?_
             simp only [Act.put, List.setIfInBounds_toArray, List.set_cons_zero, List.set_cons_succ])
          | (refine wpTr_float (v := ?_) (by simp only [List.getElem?_toArray, List.getElem?_cons_zero, List.getElem?_cons_succ]; rfl) (by rfl) (fun w' hS => ?_) ?_
             rotate_left
             ((skip); go_simp; first | done | rfl)
             simp only [Act.put, List.setIfInBounds_toArray, List.set_cons_zero, List.set_cons_succ]))
        refine wpTr_done ?_
        obtain ⟨y0, y1, y2, y3, y4, y5⟩ := str6 HG4.out
        have f1 := HG4.out.free 1
        have hl4 := HG4.out.lt
        have HG5 : Hid (Blk (w4.setCell ⟨g, 1, none⟩ (.int .i64 ((q' + 1 : Nat) : Int))) g 53 (strC (some ⟨bt, ot, none⟩) n c (q' + 1) Ar nr cr bf ah op)) := HG4.out.set_ 1 _
        have HF5 := Lib.hid (HF4.out.set 1 (.int .i64 ((q' + 1 : Nat) : Int)))
        have HO5 : Hid ((w4.setCell ⟨g, 1, none⟩ (.int .i64 ((q' + 1 : Nat) : Int))).ownsRow w.heap.size 3 1 (.slice A4 (n0 + 1) c4) (n0 + 1) (ints (out ++ [x]))) := ow_set HO4.out hg
        have kz : ((q' + 1 : Nat) : Int) = (q' : Int) + 1 := by omega
        rw [kz] at HG5 HF5 HO5
        go_wp2
        go_roundw
        case rel => exact ⟨q' + 1, n0 + 1, c4, A4, _, by omega, rfl, by omega, HO1, HO5, HG5, HF5⟩
        case measure => rw [atOf_blk HG5.out rfl, atOf_blk HGo.out rfl]; omega
      · have hkn : k < nr := by
          have := (List.getElem?_eq_some_iff.1 hk).1
          rw [HNR.out] at this
          exact this
        obtain ⟨hsz, hso, hro⟩ := chk1_ok (HOK.out r (List.mem_of_getElem? hk))
        have hfit := ((hits_append.1 happ.1).1).1
        rw [HN.out] at hfit
        have hr16 := hsz.2.2.2.2
        have HO1 : Hid ((out ++ r.res.map (pieceW items q')) ++ (stS D items h (q' + r.mat.length)).1 = R.1 ∧ (stS D items h (q' + r.mat.length)).2 = R.2) := by
          have := HOUT.out
          rw [HNX.out, writS_rule hk, Int.toNat_natCast] at this
          refine ⟨?_, this.2⟩
          rw [← this.1]
          simp
        obtain ⟨br, or, v0, v1, v2, v3, r', rfl, hbr, hxr, HRA, c0', c1', c2', c3'⟩ := (HF2.out.rules HR.out).at_ (k := k) (by rw [HNR.out]; exact hkn)
        obtain rfl : r' = r := by
          have := hxr.out
          rw [hk] at this
          injection this with this
          exact this.symm
        obtain ⟨Ab, cb, Am, cm, Aa, ca, Ap, cp, hvs, ⟨_, _, _, rr⟩, _, _, _, r1, r2⟩ := HRA.out
        simp only [List.cons.injEq, and_true] at hvs
        obtain ⟨rfl, rfl, rfl, rfl⟩ := hvs
        have RR := Lib.hid rr
        have HRO := Lib.hid hro
        obtain ⟨np, hnp⟩ : ∃ n, r'.res.length = n := ⟨_, rfl⟩
        obtain ⟨nm, hnm⟩ : ∃ n, r'.mat.length = n := ⟨_, rfl⟩
        rw [hnp] at c3' r1 hr16
        rw [hnm] at HO1 hfit c1' hm1 hm2
        rw [hnm]
        unfold maxLen at r2
        have HNP := Lib.hid hnp
        have HNM := Lib.hid hnm
        have hbr2 : br < w2.heap.size := by have := HF2.out.size; omega
        obtain ⟨y0, y1, y2, y3, y4, y5⟩ := str6 HG2.out
        have hl2 := HG2.out.lt
        clear rr hro hso hsz hnp hnm HRA hk hxr happ
        go_wp2
        go_loopw [5, 70] (fun res j wr => ∃ (z n1 c1 : Nat) (A1 : Option Addr), z ≤ np ∧ j = .int .i64 (z : Int) ∧ res = .slice A1 n1 c1 ∧ n1 ≤ 16 * q' + z ∧ Hid (wr.ownsRow w.heap.size 3 1 (.slice A1 n1 c1) n1 (ints (out ++ (r'.res.take z).map (pieceW items q')))) ∧ Hid (Blk wr g 53 (strC (some ⟨bt, ot, none⟩) n c q' (some ⟨br, or, none⟩) nr cr bf ah op)) ∧ Hid (Fr w wr g) ∧ Hid (Row wr w.heap.size Ap (prs r'.res))) (fun _ j _ => np - (intOf j).toNat)
        case atStart => exact ⟨0, n0, c0, A0, by omega, rfl, rfl, by omega, by simpa using HO2, HG2, HF2, RR⟩
        case round =>
          obtain ⟨z, n1, c1, A1, hz, rfl, rfl, hn1, HOz, HGz, HFz, HRz⟩ := hrel
          have hfz := HFz.out.size
          by_cases hzn : z < np
          · obtain ⟨bp, op', x', y', rfl, hbp, hxp, cp0, cp1⟩ := at_pr HRz.out (k := z) (by rw [HNP.out]; exact hzn)
            have hpo := HRO.out (x', y') (List.mem_of_getElem? hxp.out)
            have HMT := Lib.hid (map_take (f := pieceW items q') hxp.out)
            go_upto_region 10 with fail
            obtain ⟨wb, hwb, HBb, HKb⟩ : ∃ v, v = wr.alloc (.cells #[.int .i64 x', .int .i64 y'] 59) ∧ Hid (Below wr.heap.size wr v) ∧ Hid (Blk v wr.heap.size 59 #[.int .i64 x', .int .i64 y']) := ⟨_, rfl, (Below.refl _ _).alloc (Nat.le_refl _) _, Blk.new _ _ _⟩
            rw [← hwb]
            clear hwb
            have HOb := Lib.hid (ow_below HOz.out HBb.out)
            have HGb := Lib.hid (HGz.out.after HBb.out)
            have HFb := Lib.hid (HFz.out.after HBb.out hg)
            have HRb : Hid (Row wb w.heap.size (some ⟨bp, op', none⟩) (prs r'.res)) := HRz.out.below (HBb.out.mono hfz)
            have f0 := HKb.out.cell 0
            have f1 := HKb.out.cell 1
            have f2 := HKb.out.lt
            simp at f0 f1
            have hbb := HFb.out.size
            clear cp0 cp1
            by_cases hy : y' = 0
            · subst hy
              rw [pieceW_code] at HMT
              go_wp2_with (first
                | (at_builtin
                   refine wpList_append_row _ rfl (.tmp 77) (.tmp 80) _ rfl w.heap.size 3 i0 _ 1 8 Try.underlying31 hi0 hz0 hz1 hz2 rfl (by omega) (.slice A1 n1 c1) n1 (ints (out ++ (r'.res.take z).map (pieceW items q'))) rfl (ow_alloc HOb.out _) _ _ 1 1 [Value.int .i64 x'] rfl rfl (row_lit wb _ _) (ints_one1 _) (by simp only [maxLen]; omega) (by omega) (by simp; omega) ?_
                   intro q4 w4 o4 g4 t4
                   obtain ⟨A4, c4, rfl⟩ := ow_slice (m := n1 + 1) o4 rfl
                   rw [← ints_snoc, List.append_assoc, ← HMT.out] at o4
                   have HFl : Hid (Fr w (wb.alloc (.cells #[.int .i64 x'] 3)) g) := HFb.out.after ((Below.refl _ _).alloc (Nat.le_refl _) _) hg
                   have HF4 : Hid (Fr w w4 g) := HFl.out.own g4 (Nat.le_refl _) (fun x hx => own_base HOb.out x hx) hg
                   have HG4 : Hid (Blk w4 g 53 (strC (some ⟨bt, ot, none⟩) n c q' (some ⟨br, or, none⟩) nr cr bf ah op)) := bk_grown (HGb.out.alloc _) g4 (fun e => by have := own_base HOb.out g e.symm; omega)
                   have HR4 : Hid (Row w4 w.heap.size (some ⟨bp, op', none⟩) (prs r'.res)) := (HRb.out.below ((Below.refl _ _).alloc (by omega) _)).grown g4 (by simp; omega) (fun x hx => own_base HOb.out x hx)
                   have HO4 := Lib.hid o4
                   clear o4 g4 t4))
              go_roundw
              case rel => exact ⟨z + 1, n1 + 1, c4, A4, by omega, by go_num, rfl, by omega, HO4, HG4, HF4, HR4⟩
              case measure => simp [intOf]; omega
            · have hyr : 1 ≤ y' ∧ y' ≤ (nm : Int) := by
                rcases hpo with h | h
                · exact absurd h.1 hy
                · exact ⟨h.2.1, by have := h.2.2; rw [HNM.out] at this; exact this⟩
              obtain ⟨hy1, hy2⟩ := hyr
              obtain ⟨j5, hj5⟩ : ∃ j, j = q' + y'.toNat - 1 := ⟨_, rfl⟩
              have hj6 : j5 < n := by omega
              obtain ⟨x5, hz5⟩ : ∃ x5, Hid (items[j5]? = some x5) := ⟨_, List.getElem?_eq_getElem (by rw [HN.out]; exact hj6)⟩
              rw [pieceW_copy hy (by rw [← hj5]; exact hz5.out)] at HMT
              have k1 : IntKind.i64.wrap ((q' : Int) + y') = (q' : Int) + y' := IntWalk.i64_in _ (by omega)
              have k2 : IntKind.i64.wrap ((q' : Int) + y' - 1) = (j5 : Int) := by rw [show (q' : Int) + y' - 1 = (j5 : Int) by omega]; exact IntWalk.i64_in _ (by omega)
              have k4 : (j5 : Int) < (n : Int) := by omega
              clear hpo hj5
              go_wp2
              refine wp_region_tree (fun w' => Blk w' g 53 (strC (some ⟨bt, ot, none⟩) n c q' (some ⟨br, or, none⟩) nr cr bf ah op) ∧ Blk w' wr.heap.size 59 #[.int .i64 x', .int .i64 y'] ∧ w'.cell? ⟨bt, ot + j5, none⟩ = some (.int .i64 x5)) (.float 0 (.float 1 (.float 2 (.float 3 (.float 4 (.float 5 (.float 6 (.float 7 (.float 8 (.float 9 (.float 10 (.float 11 (.float 12 (.float 13 (.float 14 (.float 15 (.float 16 (.one 17 (.one 18 (.float 19 .done)))))))))))))))))))) (by kernel_rfl) (by kernel_rfl) (fun _ _ d _ _ h => by cases d <;> exact h) ⟨HGb.out, HKb.out, (HFb.out.row HA.out |> fun hr => by obtain ⟨b1, o1, x1, hA1, _, hx1, hc1⟩ := hr.at_int (k := j5) (by rw [HN.out]; exact hj6); injection hA1 with hA1; injection hA1 with e6 e7; subst e6 e7; have := hx1.out; rw [hz5.out] at this; injection this with this; subst this; exact hc1)⟩ ?_
              obtain ⟨wd3, hwd3⟩ : ∃ x, x = wb.drew := ⟨_, rfl⟩
              have HBd3 : Hid (Below wb.heap.size wb wd3) := by rw [hwd3]; exact (Below.refl _ _).drew
              rw [← hwd3]
              clear hwd3
              have HG3 := Lib.hid (HGb.out.after HBd3.out)
              have HF3 := Lib.hid (HFb.out.after HBd3.out hg)
              have HO3 := Lib.hid (ow_below HOb.out HBd3.out)
              have HK3 := Lib.hid (HKb.out.after HBd3.out)
              have HR3 : Hid (Row wd3 w.heap.size (some ⟨bp, op', none⟩) (prs r'.res)) := HRb.out.below (HBd3.out.mono (by omega))
              repeat (first
                | (refine wpTr_fskip (by simp only [List.getElem?_toArray, List.getElem?_cons_zero, List.getElem?_cons_succ]; rfl) (by rfl) ?_
                   simp only [Act.put, List.setIfInBounds_toArray, List.set_cons_zero, List.set_cons_succ])
                | (refine wpTr_float (v := ?_) (by simp only [List.getElem?_toArray, List.getElem?_cons_zero, List.getElem?_cons_succ]; rfl) (by rfl) (fun w' hS => ?_) ?_
                   rotate_left
                   ((obtain ⟨hSG, hSK, hSx⟩ := hS; obtain ⟨e0', e1', e2', e3', e4', e5'⟩ := str6 hSG; have hlS := hSG.lt; have e6' := hSK.cell 1; have hlK := hSK.lt; simp at e6'); go_simp; first | done | rfl)
                   simp only [Act.put, List.setIfInBounds_toArray, List.set_cons_zero, List.set_cons_succ]))
              refine wpTr_one ?_
              refine stepTr_K (by simp only [List.getElem?_toArray, List.getElem?_cons_zero, List.getElem?_cons_succ]; rfl) (by rfl) (fun K hK => ?_)
              go_simp
              obtain ⟨wl, hwl, HBl, HKL⟩ : ∃ v, v = wd3.alloc (.cells #[.int .i64 x5] 3) ∧ Hid (Below wd3.heap.size wd3 v) ∧ Hid (Row v (wd3.heap.size + 1) (some ⟨wd3.heap.size, 0, none⟩) [.int .i64 x5]) := ⟨_, rfl, (Below.refl _ _).alloc (Nat.le_refl _) _, row_lit wd3 _ _⟩
              rw [← hwl]
              obtain ⟨lb, hlb⟩ : ∃ y, y = wd3.heap.size := ⟨_, rfl⟩
              rw [← hlb] at HKL ⊢
              clear hwl hlb
              have HFl := Lib.hid (HF3.out.after HBl.out hg)
              have HGl := Lib.hid (HG3.out.after HBl.out)
              have HOl := Lib.hid (ow_below HO3.out HBl.out)
              have HKl := Lib.hid (HK3.out.after HBl.out)
              have HRl : Hid (Row wl w.heap.size (some ⟨bp, op', none⟩) (prs r'.res)) := HR3.out.below (HBl.out.mono (by have := HF3.out.size; omega))
              refine hK.out _ _ ⟨HGl.out, HKl.out, (HFl.out.row HA.out |> fun hr => by obtain ⟨b1, o1, x1, hA1, _, hx1, hc1⟩ := hr.at_int (k := j5) (by rw [HN.out]; exact hj6); injection hA1 with hA1; injection hA1 with e6 e7; subst e6 e7; have := hx1.out; rw [hz5.out] at this; injection this with this; subst this; exact hc1)⟩ ?_
              clear hK K
              try simp only [Act.put, List.setIfInBounds_toArray, List.set_cons_zero, List.set_cons_succ]
              refine wpTr_one ?_
              refine stepTr_K (by simp only [List.getElem?_toArray, List.getElem?_cons_zero, List.getElem?_cons_succ]; rfl) (by rfl) (fun K hK => ?_)
              refine wp_append_row _ (.tmp 82) (.tmp 99) _ rfl w.heap.size 3 i0 _ 1 8 Try.underlying31 hi0 hz0 hz1 hz2 rfl (by omega) (.slice A1 n1 c1) n1 (ints (out ++ (r'.res.take z).map (pieceW items q'))) rfl HOl.out _ _ 1 1 [.int .i64 x5] rfl rfl HKL.out (ints_one1 _) (by simp only [maxLen]; omega) (by omega) HFl.out.size ?_
              intro q4 w4 o4 g4 t4
              obtain ⟨A4, c4, rfl⟩ := ow_slice (m := n1 + 1) o4 rfl
              rw [← ints_snoc, List.append_assoc, ← HMT.out] at o4
              have HF4 : Hid (Fr w w4 g) := HFl.out.own g4 (Nat.le_refl _) (fun x hx => own_base HOl.out x hx) hg
              have HG4 : Hid (Blk w4 g 53 (strC (some ⟨bt, ot, none⟩) n c q' (some ⟨br, or, none⟩) nr cr bf ah op)) := bk_grown HGl.out g4 (fun e => by have := own_base HOl.out g e.symm; omega)
              have HK4 : Hid (Blk w4 wr.heap.size 59 #[.int .i64 x', .int .i64 y']) := bk_grown HKl.out g4 (own_ne_blk HOl.out HKl.out (by decide))
              have HR4 : Hid (Row w4 w.heap.size (some ⟨bp, op', none⟩) (prs r'.res)) := HRl.out.grown g4 HFl.out.size (fun x hx => own_base HOl.out x hx)
              have HO4 := Lib.hid o4
              clear o4 g4 t4
              refine hK.out _ _ ⟨HG4.out, HK4.out, (HF4.out.row HA.out |> fun hr => by obtain ⟨b1, o1, x1, hA1, _, hx1, hc1⟩ := hr.at_int (k := j5) (by rw [HN.out]; exact hj6); injection hA1 with hA1; injection hA1 with e6 e7; subst e6 e7; have := hx1.out; rw [hz5.out] at this; injection this with this; subst this; exact hc1)⟩ ?_
              clear hK K
              try simp only [Act.put, List.setIfInBounds_toArray, List.set_cons_zero, List.set_cons_succ]
              repeat (first
                | (refine wpTr_fskip (by simp only [List.getElem?_toArray, List.getElem?_cons_zero, List.getElem?_cons_succ]; rfl) (by rfl) ?_
                   simp only [Act.put, List.setIfInBounds_toArray, List.set_cons_zero, List.set_cons_succ])
                | (refine wpTr_float (v := ?_) (by simp only [List.getElem?_toArray, List.getElem?_cons_zero, List.getElem?_cons_succ]; rfl) (by rfl) (fun w' hS => ?_) ?_
                   rotate_left
                   ((skip); go_simp; first | done | rfl)
                   simp only [Act.put, List.setIfInBounds_toArray, List.set_cons_zero, List.set_cons_succ]))
              refine wpTr_done ?_
              go_wp2
              go_roundw
              case rel => exact ⟨z + 1, n1 + 1, c4, A4, by omega, by go_num, rfl, by omega, HO4, HG4, HF4, HR4⟩
              case measure => simp [intOf]; omega
          · obtain rfl : np = z := by omega
            rw [List.take_of_length_le (by rw [HNP.out]; exact Nat.le_refl _)] at HOz
            obtain ⟨y0', y1', y2', y3', y4', y5'⟩ := str6 HGz.out
            have f1 := HGz.out.free 1
            have hl4 := HGz.out.lt
            have HG5 : Hid (Blk (wr.setCell ⟨g, 1, none⟩ (.int .i64 ((q' + nm : Nat) : Int))) g 53 (strC (some ⟨bt, ot, none⟩) n c (q' + nm) (some ⟨br, or, none⟩) nr cr bf ah op)) := HGz.out.set_ 1 _
            have HF5 := Lib.hid (HFz.out.set 1 (.int .i64 ((q' + nm : Nat) : Int)))
            have HO5 : Hid ((wr.setCell ⟨g, 1, none⟩ (.int .i64 ((q' + nm : Nat) : Int))).ownsRow w.heap.size 3 1 (.slice A1 n1 c1) n1 (ints (out ++ r'.res.map (pieceW items q')))) := ow_set HOz.out hg
            have kz : ((q' + nm : Nat) : Int) = (q' : Int) + (nm : Int) := by omega
            rw [kz] at HG5 HF5 HO5
            go_wp2
            go_roundw
            case rel => exact ⟨q' + nm, n1, c1, A1, _, by omega, rfl, by omega, HO1, HO5, HG5, HF5⟩
            case measure => rw [atOf_blk HG5.out rfl, atOf_blk HGo.out rfl]; omega
    · have HST := Lib.hid (stS_stop (D := D) (h := h) (p := q') (inp := items) (by rw [HN.out]; exact hcond))
      have kc : ¬ (h : Int) ≤ ((n - q' : Nat) : Int) := by omega
      go_wp2_with (first | (go_at_call 40; refine HREST.out.mono ?_; rintro e w' ⟨rfl, m1, rfl⟩))
      go_ret
      have ho := HOUT.out
      rw [HST.out] at ho
      simp only [List.append_nil] at ho
      obtain ⟨ho1, ho2⟩ := ho
      have hle := HO.out.1
      rw [ints_len, Nat.mul_one] at hle
      have hll : R.1.length = n0 := by rw [← ho1]; exact hle
      unfold RetSteps
      rw [hll, ← ho1, ← ho2]
      exact ⟨A0, c0, rfl, ow_drewN HO.out m1, HGo.out, (HF.out.after (below_drewN (Below.refl _ _) m1) hg)⟩
end Go.Proofs.Ytjohoohdjlajcaa
