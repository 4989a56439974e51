/-
  ref02.keeps, ref02.combine: walks.
-/
import Derived.Test.YtjohoohdjlajcaaProg
import Derived.Test.YtjohoohdjlajcaaCr1
import Derived.Test.YtjohoohdjlajcaaCs8
import Derived.Test.YtjohoohdjlajcaaCs3
import Derived.Test.YtjohoohdjlajcaaTree
import Derived.Laws.OwnMore
import Derived.WalkKit
import Derived.Deep.QuietTactic
import Derived.BigQuiet
import Derived.KernelRfl
import Derived.Outline
import Derived.IntWalk
namespace Go.Proofs.Ytjohoohdjlajcaa
open Go.RowKit Go.UtYtjohoohdjlajcaa
theorem comb_const {la lb : List Rg} {cs : List Int} (hcs : cutsR (cutsR [] la) lb = cs) {k : Nat} {c : Int} (hk : cs[k]? = some c) : Cuts cs ∧ ∀ x, c ≤ x → x ≤ cutEnd cs k → (hasP la x ↔ hasP la c) ∧ (hasP lb x ↔ hasP lb c) := by
  have hC : Cuts cs := hcs ▸ (Cuts.nil.next la).next lb
  obtain ⟨h1, h2, h3, h4⟩ := cut_le hC hk
  refine ⟨hC, fun x hx hx' => ?_⟩
  obtain ⟨n, rfl⟩ : ∃ n : Nat, x = c + n := ⟨(x - c).toNat, by omega⟩
  refine ⟨cuts_const h3 h2 (fun y y1 y2 hn => cuts_change (l := []) ⟨y1, y2⟩ (fun hm => hn (hcs ▸ cuts_keep hm))) h4 n hx', cuts_const h3 h2 (fun y y1 y2 hn => cuts_change (l := cutsR [] la) ⟨y1, y2⟩ (fun hm => hn (hcs ▸ hm))) h4 n hx'⟩
/-- what an operation of the reference keeps -/
def keepB (op : Int) (x y : Bool) : Bool := if op = 1 then x || y else if op = 2 then x && y else x && !y
theorem keeps_any (op : Int) (h : op = 1 ∨ op = 2 ∨ op = 3) (x y : Bool) (w : World) : Calls Try.prog 84 #[.int .i64 op, .bool x, .bool y] w fun e w' => e = .returned (.bool (keepB op x y)) ∧ w = w' := by
  rcases h with rfl | rfl | rfl <;> cases x <;> cases y <;> (go_enter Try.func84, Try.ntmps84; go_wp2; go_ret; exact ⟨rfl, rfl⟩)
theorem cutEnd_some {cs : List Int} {k : Nat} {y : Int} (h : cs[k + 1]? = some y) : cutEnd cs k = y - 1 := by unfold cutEnd; rw [h]
theorem cutEnd_none {cs : List Int} {k : Nat} (h : cs.length ≤ k + 1) : cutEnd cs k = 1114111 := by unfold cutEnd; rw [List.getElem?_eq_none h]
theorem rgs_last (os : List Rg) (a h h' : Int) (m : Nat) (hm : m = os.length) : (rgs (os ++ [(a, h)])).set (m * 2 + 1) (.int .i64 h') = rgs (os ++ [(a, h')]) := by
  subst hm
  rw [rgs_append, rgs_append]
  have e : (rgs os).length = os.length * 2 := rgs_len os
  rw [List.set_append_right _ _ (by omega), e, show os.length * 2 + 1 - os.length * 2 = 1 by omega]
  simp [rgs]
theorem comb_step {K : Int → Prop} {out : List Rg} {op : Bool} {cs : List Int} {k : Nat} {c : Int} (hcb : Comb K out op (cutBeg cs k)) (hk : cs[k]? = some c) : Comb K out op c := by
  rwa [cutBeg_at hk] at hcb
set_option maxRecDepth 100000 in
set_option maxHeartbeats 2000000 in
theorem comb2_any (op : Int) (hop : op = 1 ∨ op = 2 ∨ op = 3) (A B : Option Addr) (ca cb : Nat) (la lb : List Rg) (w : World) (hRA : Row w w.heap.size A (rgs la)) (hRB : Row w w.heap.size B (rgs lb)) (hma : la.length ≤ 20000) (hmb : lb.length ≤ 20000) :
    Calls Try.prog 72 #[.agg #[.slice A la.length ca], .agg #[.slice B lb.length cb], .int .i64 op] w (RetSet w fun x => codeP x ∧ keepB op (decide (hasP la x)) (decide (hasP lb x)) = true) := by
  have HRA := Lib.hid hRA
  have HRB := Lib.hid hRB
  have HOP := Lib.hid hop
  clear hRA hRB hop
  obtain ⟨i0, hi0, hz0, hz1, hz2⟩ := info_parts rg_info
  obtain ⟨w1, h1, HS⟩ : ∃ w1, w1 = ((w.alloc (.cells #[.slice A la.length ca] 45)).alloc (.cells #[.slice B lb.length cb] 45)).alloc (.cells #[.slice none 0 0] 45) ∧ Hid ((fun w' => (Below w.heap.size w w' ∧ Blk w' (w.heap.size + 2) 45 #[.slice none 0 0]) ∧ Blk w' w.heap.size 45 #[.slice A la.length ca] ∧ Blk w' (w.heap.size + 1) 45 #[.slice B lb.length cb]) w1) := ⟨_, rfl, ⟨(((Below.refl _ _).alloc (Nat.le_refl _) _).alloc (by simp) _).alloc (by simp; omega) _, by have := Blk.new ((w.alloc (.cells #[.slice A la.length ca] 45)).alloc (.cells #[.slice B lb.length cb] 45)) 45 #[.slice none 0 0]; simpa using this⟩, ((Blk.new w _ _).alloc _).alloc _, by have := (Blk.new (w.alloc (.cells #[.slice A la.length ca] 45)) 45 #[.slice B lb.length cb]).alloc (.cells #[.slice none 0 0] 45); simpa using this⟩
  obtain ⟨cs1, hcs1⟩ : ∃ cs, cutsR [] la = cs := ⟨_, rfl⟩
  obtain ⟨cs, hcs⟩ : ∃ cs, cutsR cs1 lb = cs := ⟨_, rfl⟩
  have hl1 : cs1.length ≤ 50000 := by have := cutsR_len la []; rw [hcs1] at this; simp at this; omega
  have hl2 : cs.length ≤ 100000 := by have := cutsR_len lb cs1; rw [hcs] at this; omega
  have HC1 := Lib.hid hcs1
  have HC2 := Lib.hid hcs
  have HCC : Hid (cutsR (cutsR [] la) lb = cs) := by show _ = _; rw [hcs1, hcs]
  clear hcs1 hcs
  go_enter Try.func72, Try.ntmps72
  go_wp2_with fail
  rw [← h1]
  clear h1
  obtain ⟨d, hd, HS⟩ : ∃ d, d = w1.drew ∧ Hid ((fun w' => (Below w.heap.size w w' ∧ Blk w' (w.heap.size + 2) 45 #[.slice none 0 0]) ∧ Blk w' w.heap.size 45 #[.slice A la.length ca] ∧ Blk w' (w.heap.size + 1) 45 #[.slice B lb.length cb]) d) := ⟨_, rfl, ⟨below_drewN HS.out.1.1 1, HS.out.1.2⟩, HS.out.2⟩
  refine wp_region_tree (fun w' => (Below w.heap.size w w' ∧ Blk w' (w.heap.size + 2) 45 #[.slice none 0 0]) ∧ Blk w' w.heap.size 45 #[.slice A la.length ca] ∧ Blk w' (w.heap.size + 1) 45 #[.slice B lb.length cb]) (.float 0 (.float 2 (.one 1 (.one 3 (.float 4 .done))))) (by kernel_rfl) (by kernel_rfl) (fun _ _ d _ _ h => by cases d <;> exact h) (hd ▸ HS.out) ?_
  rw [← hd]
  clear hd
  repeat (first
    | (refine wpTr_fskip (by simp only [List.getElem?_toArray, List.getElem?_cons_zero, List.getElem?_cons_succ]; rfl) (by rfl) ?_
       simp only [Act.put, List.setIfInBounds_toArray, List.set_cons_zero, List.set_cons_succ])
    | (refine wpTr_float (v := ?_) (by simp only [List.getElem?_toArray, List.getElem?_cons_zero, List.getElem?_cons_succ]; rfl) (by rfl) (fun w' hS => ?_) ?_
       rotate_left
       (obtain ⟨-, hS1, hS2⟩ := hS; have e1 := hS1.cell 0; have e2 := hS2.cell 0; simp at e1 e2; go_simp; first | done | rfl)
       simp only [Act.put, List.setIfInBounds_toArray, List.set_cons_zero, List.set_cons_succ]))
  refine wpTr_one ?_
  refine stepTr_K (by simp only [List.getElem?_toArray, List.getElem?_cons_zero, List.getElem?_cons_succ]; rfl) (by rfl) (fun K hK => ?_)
  go_simp
  refine (cuts_any none A 0 ca [] la d Row.nil (HRA.out.below HS.out.1.1).lt (by simp) (by omega) cs1 HC1.out).mono ?_
  rintro e v1 ⟨A1, k1, rfl, g1, g2, g3, g4⟩
  have hdz := HS.out.1.1.size
  have HS1 : Hid ((fun w' => (Below w.heap.size w w' ∧ Blk w' (w.heap.size + 2) 45 #[.slice none 0 0]) ∧ Blk w' w.heap.size 45 #[.slice A la.length ca] ∧ Blk w' (w.heap.size + 1) 45 #[.slice B lb.length cb]) v1) := ⟨⟨HS.out.1.1.trans (g4.mono hdz), HS.out.1.2.after g4⟩, HS.out.2.1.after g4, HS.out.2.2.after g4⟩
  have HR1 := Lib.hid g3
  clear g1 g2 g3 g4
  refine hK.out _ _ HS1.out ?_
  clear hK K
  try simp only [Act.put, List.setIfInBounds_toArray, List.set_cons_zero, List.set_cons_succ]
  refine wpTr_one ?_
  refine stepTr_K (by simp only [List.getElem?_toArray, List.getElem?_cons_zero, List.getElem?_cons_succ]; rfl) (by rfl) (fun K hK => ?_)
  go_simp
  refine (cuts_any A1 B k1 cb cs1 lb v1 HR1.out (HRB.out.below HS1.out.1.1).lt (by omega) (by omega) cs HC2.out).mono ?_
  rintro e v2 ⟨A2, k2, rfl, g1, g2, g3, g4⟩
  have hdz1 := HS1.out.1.1.size
  have HS2 : Hid ((fun w' => (Below w.heap.size w w' ∧ Blk w' (w.heap.size + 2) 45 #[.slice none 0 0]) ∧ Blk w' w.heap.size 45 #[.slice A la.length ca] ∧ Blk w' (w.heap.size + 1) 45 #[.slice B lb.length cb]) v2) := ⟨⟨HS1.out.1.1.trans (g4.mono hdz1), HS1.out.1.2.after g4⟩, HS1.out.2.1.after g4, HS1.out.2.2.after g4⟩
  have HR2 := Lib.hid g3
  clear g1 g2 g3 g4 HR1 HS1 HS hdz hdz1
  refine hK.out _ _ HS2.out ?_
  clear hK K
  try simp only [Act.put, List.setIfInBounds_toArray, List.set_cons_zero, List.set_cons_succ]
  repeat (first
    | (refine wpTr_fskip (by simp only [List.getElem?_toArray, List.getElem?_cons_zero, List.getElem?_cons_succ]; rfl) (by rfl) ?_
       simp only [Act.put, List.setIfInBounds_toArray, List.set_cons_zero, List.set_cons_succ])
    | (refine wpTr_float (v := ?_) (by simp only [List.getElem?_toArray, List.getElem?_cons_zero, List.getElem?_cons_succ]; rfl) (by rfl) (fun w' hS => ?_) ?_
       rotate_left
       (obtain ⟨-, hS1, hS2⟩ := hS; have e1 := hS1.cell 0; have e2 := hS2.cell 0; simp at e1 e2; go_simp; first | done | rfl)
       simp only [Act.put, List.setIfInBounds_toArray, List.set_cons_zero, List.set_cons_succ]))
  refine wpTr_done ?_
  go_wp2
  have HRA2 := Lib.hid (HRA.out.below HS2.out.1.1).lt
  have HRB2 := Lib.hid (HRB.out.below HS2.out.1.1).lt
  have hv2 := HS2.out.1.2.lt
  go_loopw [9, 10] (fun o i wr => ∃ (k n c : Nat) (op' : Bool) (A' : Option Addr) (out : List Rg), k ≤ cs.length ∧ i = .int .i64 (k : Int) ∧ o = .bool op' ∧ n ≤ k ∧ Hid (Comb (fun x => keepB op (decide (hasP la x)) (decide (hasP lb x)) = true) out op' (cutBeg cs k)) ∧ Hid (wr.ownsRow (v2.heap.size + 1) 71 2 (.slice A' n c) n (rgs out)) ∧ Hid (Below v2.heap.size v2 wr) ∧ Hid (Blk wr v2.heap.size 45 #[.slice A' n c])) (fun _ i _ => cs.length - (intOf i).toNat)
  case atStart => exact ⟨0, 0, 0, false, none, [], by omega, rfl, rfl, by omega, by rw [← HCC.out, cuts_head ((Cuts.nil.next la).next lb)]; exact Comb.nil _, own_nil _, (Below.refl _ _).alloc (Nat.le_refl _) _, Blk.new _ _ _⟩
  case round =>
    obtain ⟨k, n, c, op', A', out, hk, rfl, rfl, hn, HCB, HO, HB, HX⟩ := hrel
    have hxl := HX.out.lt
    have y0 := HX.out.cell 0
    have z0 := HX.out.free 0
    simp at y0
    by_cases h1 : k < cs.length
    · obtain ⟨b, o, x, rfl, hb, hx, hc⟩ := (HR2.out.below HB.out).at_int h1
      obtain ⟨hC, hconst⟩ := comb_const HCC.out hx.out
      obtain ⟨q1, q2, q3, -⟩ := cut_le hC hx.out
      have HKX : Hid (∀ y, x ≤ y → y ≤ cutEnd cs k → keepB op (decide (hasP la y)) (decide (hasP lb y)) = keepB op (decide (hasP la x)) (decide (hasP lb x))) := fun y h2 h3 => by
        rw [decide_eq_decide.2 (hconst y h2 h3).1, decide_eq_decide.2 (hconst y h2 h3).2]
      have HCX := Lib.hid (comb_step HCB.out hx.out)
      have HCE := Lib.hid (cutEnd_beg cs k)
      obtain ⟨hi, hhi⟩ : ∃ hi, cutEnd cs k = hi := ⟨_, rfl⟩
      obtain ⟨kk, hkk⟩ : ∃ kk, keepB op (decide (hasP la x)) (decide (hasP lb x)) = kk := ⟨_, rfl⟩
      obtain ⟨ba, hba⟩ : ∃ ba, decide (hasP la x) = ba := ⟨_, rfl⟩
      obtain ⟨bb, hbb⟩ : ∃ bb, decide (hasP lb x) = bb := ⟨_, rfl⟩
      have HBA := Lib.hid hba
      have HBB := Lib.hid hbb
      have HKB : Hid (keepB op ba bb = kk) := by show _ = _; rw [← hba, ← hbb]; exact hkk
      rw [hkk, hhi] at HKX
      rw [hhi] at HCE q1 q2
      have HHI := Lib.hid hhi
      clear hconst hC hba hbb hkk hhi HCB
      have c0 := HS2.out.2.1
      have hc4 : k + 1 < cs.length → ∃ y, Hid (cs[k + 1]? = some y) ∧ wr.cell? ⟨b, o + (k + 1), none⟩ = some (.int .i64 y) := fun h => by
        obtain ⟨b', o', y, e, _, hy, hc'⟩ := (HR2.out.below HB.out).at_int h
        injection e with e
        injection e with e1 e2
        subst e1 e2
        exact ⟨y, hy, hc'⟩
      clear c0
      by_cases h2 : k + 1 < cs.length
      · obtain ⟨y, hy, hc4⟩ := hc4 h2
        obtain rfl : y = hi + 1 := by rw [← HHI.out, cutEnd_some hy.out]; omega
        have yA := (HB.out.cell (p := ⟨w.heap.size, 0, none⟩) HS2.out.2.1.lt).trans (HS2.out.2.1.cell 0)
        have yB := (HB.out.cell (p := ⟨w.heap.size + 1, 0, none⟩) HS2.out.2.2.lt).trans (HS2.out.2.2.cell 0)
        simp at yA yB
        go_wp2_with fail
        obtain ⟨d, hd, HBd, HXd, HOd⟩ : ∃ d, d = wr.drew ∧ Hid (Below v2.heap.size v2 d) ∧ Hid (Blk d v2.heap.size 45 #[.slice A' n c]) ∧ Hid (d.ownsRow (v2.heap.size + 1) 71 2 (.slice A' n c) n (rgs out)) := ⟨_, rfl, below_drewN HB.out 1, HX.out, HO.out⟩
        refine wp_region_tree (fun w' => Below v2.heap.size v2 w') (.float 0 (.float 1 (.float 2 (.float 3 (.float 4 (.float 5 (.float 7 (.float 8 (.float 9 (.float 10 (.float 11 (.one 6 (.one 12 (.one 13 (.float 14 .done))))))))))))))) (by kernel_rfl) (by kernel_rfl) (fun _ _ d _ _ h => by cases d <;> exact h) (hd ▸ HBd.out) ?_
        rw [← hd]
        clear hd
        repeat (first
          | (refine wpTr_fskip (by simp only [List.getElem?_toArray, List.getElem?_cons_zero, List.getElem?_cons_succ]; rfl) (by rfl) ?_
             simp only [Act.put, List.setIfInBounds_toArray, List.set_cons_zero, List.set_cons_succ])
          | (refine wpTr_float (v := ?_) (by simp only [List.getElem?_toArray, List.getElem?_cons_zero, List.getElem?_cons_succ]; rfl) (by rfl) (fun w' hS => ?_) ?_
             rotate_left
             (have hS' : Below v2.heap.size v2 w' := hS; have e1 := (hS'.cell (p := ⟨w.heap.size, 0, none⟩) HS2.out.2.1.lt).trans (HS2.out.2.1.cell 0); have e2 := (hS'.cell (p := ⟨w.heap.size + 1, 0, none⟩) HS2.out.2.2.lt).trans (HS2.out.2.2.cell 0); have e3 := ((hS'.cell (p := ⟨b, o + k, none⟩) hb).trans ((HB.out.cell (p := ⟨b, o + k, none⟩) hb).symm.trans hc)); simp at e1 e2; go_simp; first | done | rfl)
             simp only [Act.put, List.setIfInBounds_toArray, List.set_cons_zero, List.set_cons_succ]))
        refine wpTr_one ?_
        refine stepTr_K (by simp only [List.getElem?_toArray, List.getElem?_cons_zero, List.getElem?_cons_succ]; rfl) (by rfl) (fun K hK => ?_)
        go_simp
        refine (has2_any A ca la x d ((HRA2.out.below HBd.out).lt) (by simp only [maxLen]; omega) ba HBA.out).mono ?_
        rintro e u1 ⟨rfl, g4⟩
        have HB1 := Lib.hid (HBd.out.trans (g4.mono HBd.out.size))
        have HX1 := Lib.hid (HXd.out.after g4)
        have HO1 := Lib.hid (ow_below HOd.out g4)
        clear g4 HBd HXd HOd
        refine hK.out _ _ HB1.out ?_
        clear hK K
        try simp only [Act.put, List.setIfInBounds_toArray, List.set_cons_zero, List.set_cons_succ]
        refine wpTr_one ?_
        refine stepTr_K (by simp only [List.getElem?_toArray, List.getElem?_cons_zero, List.getElem?_cons_succ]; rfl) (by rfl) (fun K hK => ?_)
        go_simp
        refine (has2_any B cb lb x u1 ((HRB2.out.below HB1.out).lt) (by simp only [maxLen]; omega) bb HBB.out).mono ?_
        rintro e u2 ⟨rfl, g4⟩
        have HB3 := Lib.hid (HB1.out.trans (g4.mono HB1.out.size))
        have HX3 := Lib.hid (HX1.out.after g4)
        have HO3 := Lib.hid (ow_below HO1.out g4)
        clear g4 HB1 HX1 HO1
        refine hK.out _ _ HB3.out ?_
        clear hK K
        try simp only [Act.put, List.setIfInBounds_toArray, List.set_cons_zero, List.set_cons_succ]
        refine wpTr_one ?_
        refine stepTr_K (by simp only [List.getElem?_toArray, List.getElem?_cons_zero, List.getElem?_cons_succ]; rfl) (by rfl) (fun K hK => ?_)
        go_simp
        refine (keeps_any op HOP.out ba bb u2).mono ?_
        rintro e u3 ⟨rfl, hu⟩
        obtain rfl : u2 = u3 := hu
        rw [HKB.out]
        refine hK.out _ _ HB3.out ?_
        clear hK K
        try simp only [Act.put, List.setIfInBounds_toArray, List.set_cons_zero, List.set_cons_succ]
        repeat (first
          | (refine wpTr_fskip (by simp only [List.getElem?_toArray, List.getElem?_cons_zero, List.getElem?_cons_succ]; rfl) (by rfl) ?_
             simp only [Act.put, List.setIfInBounds_toArray, List.set_cons_zero, List.set_cons_succ])
          | (refine wpTr_float (v := ?_) (by simp only [List.getElem?_toArray, List.getElem?_cons_zero, List.getElem?_cons_succ]; rfl) (by rfl) (fun w' hS => ?_) ?_
             rotate_left
             (have hS' : Below v2.heap.size v2 w' := hS; have e1 := (hS'.cell (p := ⟨w.heap.size, 0, none⟩) HS2.out.2.1.lt).trans (HS2.out.2.1.cell 0); have e2 := (hS'.cell (p := ⟨w.heap.size + 1, 0, none⟩) HS2.out.2.2.lt).trans (HS2.out.2.2.cell 0); have e3 := ((hS'.cell (p := ⟨b, o + k, none⟩) hb).trans ((HB.out.cell (p := ⟨b, o + k, none⟩) hb).symm.trans hc)); simp at e1 e2; go_simp; first | done | rfl)
             simp only [Act.put, List.setIfInBounds_toArray, List.set_cons_zero, List.set_cons_succ]))
        refine wpTr_done ?_
        have hx3 := HX3.out.lt
        have y3 := HX3.out.cell 0
        have z3 := HX3.out.free 0
        simp at y3
        cases kk with
        | false =>
          have HN := Lib.hid (HCX.out.skip q1 (fun y h2 h3 h => by rw [HKX.out y h2 h3] at h; cases h))
          cases op' <;>
          · go_wp2
            go_roundw
            case rel => exact ⟨k + 1, n, c, false, A', out, by omega, by go_num, rfl, by omega, by rw [← HCE.out]; exact HN, HO3, HB3, HX3⟩
            case measure => simp [intOf]; omega
        | true =>
          cases op' with
          | true =>
            obtain ⟨os, a, rfl⟩ := HCX.out.on rfl
            have HN := Lib.hid (HCX.out.more q1 q2 (fun y h2 h3 => HKX.out y h2 h3))
            have hos : n = os.length + 1 := by have := HO3.out.1; rw [rgs_len] at this; simp at this; omega
            obtain ⟨m, hm'⟩ : ∃ m, m = os.length := ⟨_, rfl⟩
            obtain rfl : n = m + 1 := by omega
            have HMO := Lib.hid hm'
            clear hos hm'
            obtain ⟨g, cg, hg⟩ : ∃ g cg, Value.slice A' (m + 1) c = .slice (some ⟨g, 0, none⟩) (m + 1) cg := by
              rcases HO3.out.2 with ⟨h, h'⟩ | ⟨g, cap, cur, h, _⟩
              · omega
              · exact ⟨g, cap, h⟩
            obtain ⟨rfl, rfl⟩ : A' = some ⟨g, 0, none⟩ ∧ c = cg := by injection hg with e1 e2 e3; exact ⟨e1, e3⟩
            clear hg
            obtain ⟨g1, g2⟩ := rgs_get (l := os ++ [(a, x - 1)]) (k := m) (r := (a, x - 1)) (by rw [HMO.out]; simp)
            have c6 := (HO3.out.cellAt (m * 2 + 1) (by omega)).trans g2
            have f6 := HO3.out.frozenAt (m * 2 + 1)
            obtain ⟨t1, t2⟩ := HO3.out.stored (m * 2 + 1) (Value.int IntKind.i64 hi)
            rw [rgs_last os a (x - 1) hi m HMO.out] at t1
            have HO4 := Lib.hid t1
            have hbg := own_base HO3.out
            have HB4 := Lib.hid (HB3.out.grown t2 HB3.out.size (fun g' hg' => by have := hbg g' hg'; omega))
            have HX4 := Lib.hid (bk_grown HX3.out t2 (fun e => by have := hbg _ e.symm; omega))
            have k4 : IntKind.i64.wrap ((m : Int) + 1 - 1) = (m : Int) := by rw [show (m : Int) + 1 - 1 = m by omega]; exact IntWalk.i64_in _ (by omega)
            have k6 : (m : Int) + 1 - 1 = m := by omega
            clear g1 g2 t1 t2 hbg
            go_wp2
            go_roundw
            case rel => exact ⟨k + 1, m + 1, c, true, _, _, by omega, by go_num, rfl, by omega, by rw [← HCE.out]; exact HN, HO4, HB4, HX4⟩
            case measure => simp [intOf]; omega
          | false =>
            have HN := Lib.hid (HCX.out.open_ q3 q1 q2 (fun y h2 h3 => HKX.out y h2 h3))
            have hc5 : u2.cell? ⟨b, o + k, none⟩ = some (.int .i64 x) := by
              obtain ⟨b', o', x', e, _, hx', hc'⟩ := (HR2.out.below HB3.out).at_int h1
              injection e with e
              injection e with e1 e2
              subst e1 e2
              have := hx.out.symm.trans hx'.out
              injection this with this
              subst this
              exact hc'
            go_wp2_with fail
            obtain ⟨d, hd, HBd, HXd, HOd⟩ : ∃ d, d = u2.drew ∧ Hid (Below v2.heap.size v2 d) ∧ Hid (Blk d v2.heap.size 45 #[.slice A' n c]) ∧ Hid (d.ownsRow (v2.heap.size + 1) 71 2 (.slice A' n c) n (rgs out)) := ⟨_, rfl, below_drewN HB3.out 1, HX3.out, HO3.out⟩
            refine wp_region_tree (fun w' => Below v2.heap.size v2 w') (.float 0 (.float 2 (.float 3 (.float 4 (.float 5 (.float 6 (.float 7 (.two 1 (.one 8 (.one 9 (.float 10 (.one 11 .done)))) 8 (.one 1 (.one 9 (.float 10 (.one 11 .done)))))))))))) (by kernel_rfl) (by kernel_rfl) (fun _ _ d _ _ h => by cases d <;> exact h) (hd ▸ HBd.out) ?_
            rw [← hd]
            clear hd
            repeat (first
              | (refine wpTr_fskip (by simp only [List.getElem?_toArray, List.getElem?_cons_zero, List.getElem?_cons_succ]; rfl) (by rfl) ?_
                 simp only [Act.put, List.setIfInBounds_toArray, List.set_cons_zero, List.set_cons_succ])
              | (refine wpTr_float (v := ?_) (by simp only [List.getElem?_toArray, List.getElem?_cons_zero, List.getElem?_cons_succ]; rfl) (by rfl) (fun w' hS => ?_) ?_
                 rotate_left
                 (have hS' : Below v2.heap.size v2 w' := hS; have e1 := (hS'.cell (p := ⟨w.heap.size, 0, none⟩) HS2.out.2.1.lt).trans (HS2.out.2.1.cell 0); have e2 := (hS'.cell (p := ⟨w.heap.size + 1, 0, none⟩) HS2.out.2.2.lt).trans (HS2.out.2.2.cell 0); have e3 := ((hS'.cell (p := ⟨b, o + k, none⟩) hb).trans ((HB.out.cell (p := ⟨b, o + k, none⟩) hb).symm.trans hc)); simp at e1 e2; go_simp; first | done | rfl)
                 simp only [Act.put, List.setIfInBounds_toArray, List.set_cons_zero, List.set_cons_succ]))
            obtain ⟨v, hv, HBv, HXv, HOv⟩ : ∃ v, v = d.alloc (.cells #[.int .i64 x, .int .i64 hi] 71) ∧ Hid (Below v2.heap.size v2 v) ∧ Hid (Blk v v2.heap.size 45 #[.slice A' n c]) ∧ Hid (v.ownsRow (v2.heap.size + 1) 71 2 (.slice A' n c) n (rgs out)) := ⟨_, rfl, HBd.out.alloc HBd.out.size _, HXd.out.alloc _, ow_alloc HOd.out _⟩
            have yd := HXd.out.cell 0
            have yv := HXv.out.cell 0
            simp at yd yv
            have HRV : Hid (Row v (d.heap.size + 1) (some ⟨d.heap.size, 0, none⟩) [.int .i64 x, .int .i64 hi]) := by rw [hv]; exact row_lit d _ _
            have hvs := HXv.out.lt
            refine wpTr_two ?_ ?_
            · refine stepTr_K (by simp only [List.getElem?_toArray, List.getElem?_cons_zero, List.getElem?_cons_succ]; rfl) (by rfl) (fun K hK => ?_)
              go_simp
              refine hK.out _ _ HBd.out ?_
              clear hK K
              try simp only [Act.put, List.setIfInBounds_toArray, List.set_cons_zero, List.set_cons_succ]
              refine wpTr_one ?_
              refine stepTr_K (by simp only [List.getElem?_toArray, List.getElem?_cons_zero, List.getElem?_cons_succ]; rfl) (by rfl) (fun K hK => ?_)
              go_simp
              rw [← hv]
              clear hv
              refine hK.out _ _ HBv.out ?_
              clear hK K
              try simp only [Act.put, List.setIfInBounds_toArray, List.set_cons_zero, List.set_cons_succ]
              refine wpTr_one ?_
              refine stepTr_K (by simp only [List.getElem?_toArray, List.getElem?_cons_zero, List.getElem?_cons_succ]; rfl) (by rfl) (fun K hK => ?_)
              refine wp_append_row v (.tmp 67) (.tmp 74) _ rfl (v2.heap.size + 1) 71 i0 _ 2 16 Try.underlying43 hi0 hz0 hz1 hz2 rfl (by omega) (.slice A' n c) n (rgs out) rfl HOv.out _ _ 1 1 [Value.int .i64 x, Value.int .i64 hi] rfl rfl HRV.out (by simp [Value.oneCell']) (by simp only [maxLen]; omega) (by omega) hvs ?_
              intro q4 w4 o4 g4 t4
              obtain ⟨A4, c4, rfl⟩ := ow_slice (m := n + 1) o4 rfl
              have hbg := own_base HOv.out
              have HB4 := Lib.hid (HBv.out.grown g4 HBv.out.size (fun g hg => by have := hbg g hg; omega))
              have HX4 := Lib.hid (bk_grown HXv.out g4 (fun e => by have := hbg _ e.symm; omega))
              have HO4 := Lib.hid (ow_set (p := ⟨v2.heap.size, 0, none⟩) (u := .slice A4 (n + 1) c4) o4 (Nat.lt_succ_self _))
              have y4 := HX4.out.cell 0
              have z4 := HX4.out.free 0
              simp at y4
              have HX5 : Hid (Blk (w4.setCell ⟨v2.heap.size, 0, none⟩ (.slice A4 (n + 1) c4)) v2.heap.size 45 #[.slice A4 (n + 1) c4]) := by
                have := HX4.out.set_ 0 (.slice A4 (n + 1) c4)
                show Blk _ _ _ _
                simpa using this
              have HB5 := Lib.hid (HB4.out.setCell (p := ⟨v2.heap.size, 0, none⟩) (Nat.le_refl _) (.slice A4 (n + 1) c4))
              clear o4 g4 t4 hbg
              refine hK.out _ _ HB4.out ?_
              clear hK K
              try simp only [Act.put, List.setIfInBounds_toArray, List.set_cons_zero, List.set_cons_succ]
              repeat (first
                | (refine wpTr_fskip (by simp only [List.getElem?_toArray, List.getElem?_cons_zero, List.getElem?_cons_succ]; rfl) (by rfl) ?_
                   simp only [Act.put, List.setIfInBounds_toArray, List.set_cons_zero, List.set_cons_succ])
                | (refine wpTr_float (v := ?_) (by simp only [List.getElem?_toArray, List.getElem?_cons_zero, List.getElem?_cons_succ]; rfl) (by rfl) (fun w' hS => ?_) ?_
                   rotate_left
                   (have hS' : Below v2.heap.size v2 w' := hS; have e1 := (hS'.cell (p := ⟨w.heap.size, 0, none⟩) HS2.out.2.1.lt).trans (HS2.out.2.1.cell 0); have e2 := (hS'.cell (p := ⟨w.heap.size + 1, 0, none⟩) HS2.out.2.2.lt).trans (HS2.out.2.2.cell 0); have e3 := ((hS'.cell (p := ⟨b, o + k, none⟩) hb).trans ((HB.out.cell (p := ⟨b, o + k, none⟩) hb).symm.trans hc)); simp at e1 e2; go_simp; first | done | rfl)
                   simp only [Act.put, List.setIfInBounds_toArray, List.set_cons_zero, List.set_cons_succ]))
              refine wpTr_one ?_
              refine stepTr_K (by simp only [List.getElem?_toArray, List.getElem?_cons_zero, List.getElem?_cons_succ]; rfl) (by rfl) (fun K hK => ?_)
              go_simp
              refine hK.out _ _ HB5.out ?_
              clear hK K
              try simp only [Act.put, List.setIfInBounds_toArray, List.set_cons_zero, List.set_cons_succ]
              refine wpTr_done ?_
              go_wp2
              go_roundw
              case rel => exact ⟨k + 1, n + 1, c4, true, A4, _, by omega, by go_num, rfl, by omega, by rw [← HCE.out]; exact HN, by rw [rgs_append]; exact HO4, HB5, HX5⟩
              case measure => simp [intOf]; omega
            · refine stepTr_K (by simp only [List.getElem?_toArray, List.getElem?_cons_zero, List.getElem?_cons_succ]; rfl) (by rfl) (fun K hK => ?_)
              go_simp
              rw [← hv]
              clear hv
              refine hK.out _ _ HBv.out ?_
              clear hK K
              try simp only [Act.put, List.setIfInBounds_toArray, List.set_cons_zero, List.set_cons_succ]
              refine wpTr_one ?_
              refine stepTr_K (by simp only [List.getElem?_toArray, List.getElem?_cons_zero, List.getElem?_cons_succ]; rfl) (by rfl) (fun K hK => ?_)
              go_simp
              refine hK.out _ _ HBv.out ?_
              clear hK K
              try simp only [Act.put, List.setIfInBounds_toArray, List.set_cons_zero, List.set_cons_succ]
              refine wpTr_one ?_
              refine stepTr_K (by simp only [List.getElem?_toArray, List.getElem?_cons_zero, List.getElem?_cons_succ]; rfl) (by rfl) (fun K hK => ?_)
              refine wp_append_row v (.tmp 67) (.tmp 74) _ rfl (v2.heap.size + 1) 71 i0 _ 2 16 Try.underlying43 hi0 hz0 hz1 hz2 rfl (by omega) (.slice A' n c) n (rgs out) rfl HOv.out _ _ 1 1 [Value.int .i64 x, Value.int .i64 hi] rfl rfl HRV.out (by simp [Value.oneCell']) (by simp only [maxLen]; omega) (by omega) hvs ?_
              intro q4 w4 o4 g4 t4
              obtain ⟨A4, c4, rfl⟩ := ow_slice (m := n + 1) o4 rfl
              have hbg := own_base HOv.out
              have HB4 := Lib.hid (HBv.out.grown g4 HBv.out.size (fun g hg => by have := hbg g hg; omega))
              have HX4 := Lib.hid (bk_grown HXv.out g4 (fun e => by have := hbg _ e.symm; omega))
              have HO4 := Lib.hid (ow_set (p := ⟨v2.heap.size, 0, none⟩) (u := .slice A4 (n + 1) c4) o4 (Nat.lt_succ_self _))
              have y4 := HX4.out.cell 0
              have z4 := HX4.out.free 0
              simp at y4
              have HX5 : Hid (Blk (w4.setCell ⟨v2.heap.size, 0, none⟩ (.slice A4 (n + 1) c4)) v2.heap.size 45 #[.slice A4 (n + 1) c4]) := by
                have := HX4.out.set_ 0 (.slice A4 (n + 1) c4)
                show Blk _ _ _ _
                simpa using this
              have HB5 := Lib.hid (HB4.out.setCell (p := ⟨v2.heap.size, 0, none⟩) (Nat.le_refl _) (.slice A4 (n + 1) c4))
              clear o4 g4 t4 hbg
              refine hK.out _ _ HB4.out ?_
              clear hK K
              try simp only [Act.put, List.setIfInBounds_toArray, List.set_cons_zero, List.set_cons_succ]
              repeat (first
                | (refine wpTr_fskip (by simp only [List.getElem?_toArray, List.getElem?_cons_zero, List.getElem?_cons_succ]; rfl) (by rfl) ?_
                   simp only [Act.put, List.setIfInBounds_toArray, List.set_cons_zero, List.set_cons_succ])
                | (refine wpTr_float (v := ?_) (by simp only [List.getElem?_toArray, List.getElem?_cons_zero, List.getElem?_cons_succ]; rfl) (by rfl) (fun w' hS => ?_) ?_
                   rotate_left
                   (have hS' : Below v2.heap.size v2 w' := hS; have e1 := (hS'.cell (p := ⟨w.heap.size, 0, none⟩) HS2.out.2.1.lt).trans (HS2.out.2.1.cell 0); have e2 := (hS'.cell (p := ⟨w.heap.size + 1, 0, none⟩) HS2.out.2.2.lt).trans (HS2.out.2.2.cell 0); have e3 := ((hS'.cell (p := ⟨b, o + k, none⟩) hb).trans ((HB.out.cell (p := ⟨b, o + k, none⟩) hb).symm.trans hc)); simp at e1 e2; go_simp; first | done | rfl)
                   simp only [Act.put, List.setIfInBounds_toArray, List.set_cons_zero, List.set_cons_succ]))
              refine wpTr_one ?_
              refine stepTr_K (by simp only [List.getElem?_toArray, List.getElem?_cons_zero, List.getElem?_cons_succ]; rfl) (by rfl) (fun K hK => ?_)
              go_simp
              refine hK.out _ _ HB5.out ?_
              clear hK K
              try simp only [Act.put, List.setIfInBounds_toArray, List.set_cons_zero, List.set_cons_succ]
              refine wpTr_done ?_
              go_wp2
              go_roundw
              case rel => exact ⟨k + 1, n + 1, c4, true, A4, _, by omega, by go_num, rfl, by omega, by rw [← HCE.out]; exact HN, by rw [rgs_append]; exact HO4, HB5, HX5⟩
              case measure => simp [intOf]; omega
      · clear hc4
        obtain rfl : hi = 1114111 := by rw [← HHI.out, cutEnd_none (by omega)]
        have yA := (HB.out.cell (p := ⟨w.heap.size, 0, none⟩) HS2.out.2.1.lt).trans (HS2.out.2.1.cell 0)
        have yB := (HB.out.cell (p := ⟨w.heap.size + 1, 0, none⟩) HS2.out.2.2.lt).trans (HS2.out.2.2.cell 0)
        simp at yA yB
        go_wp2_with fail
        obtain ⟨d, hd, HBd, HXd, HOd⟩ : ∃ d, d = wr.drew ∧ Hid (Below v2.heap.size v2 d) ∧ Hid (Blk d v2.heap.size 45 #[.slice A' n c]) ∧ Hid (d.ownsRow (v2.heap.size + 1) 71 2 (.slice A' n c) n (rgs out)) := ⟨_, rfl, below_drewN HB.out 1, HX.out, HO.out⟩
        refine wp_region_tree (fun w' => Below v2.heap.size v2 w') (.float 0 (.float 1 (.float 2 (.float 3 (.float 4 (.float 5 (.float 7 (.float 8 (.float 9 (.float 10 (.float 11 (.one 6 (.one 12 (.one 13 (.float 14 .done))))))))))))))) (by kernel_rfl) (by kernel_rfl) (fun _ _ d _ _ h => by cases d <;> exact h) (hd ▸ HBd.out) ?_
        rw [← hd]
        clear hd
        repeat (first
          | (refine wpTr_fskip (by simp only [List.getElem?_toArray, List.getElem?_cons_zero, List.getElem?_cons_succ]; rfl) (by rfl) ?_
             simp only [Act.put, List.setIfInBounds_toArray, List.set_cons_zero, List.set_cons_succ])
          | (refine wpTr_float (v := ?_) (by simp only [List.getElem?_toArray, List.getElem?_cons_zero, List.getElem?_cons_succ]; rfl) (by rfl) (fun w' hS => ?_) ?_
             rotate_left
             (have hS' : Below v2.heap.size v2 w' := hS; have e1 := (hS'.cell (p := ⟨w.heap.size, 0, none⟩) HS2.out.2.1.lt).trans (HS2.out.2.1.cell 0); have e2 := (hS'.cell (p := ⟨w.heap.size + 1, 0, none⟩) HS2.out.2.2.lt).trans (HS2.out.2.2.cell 0); have e3 := ((hS'.cell (p := ⟨b, o + k, none⟩) hb).trans ((HB.out.cell (p := ⟨b, o + k, none⟩) hb).symm.trans hc)); simp at e1 e2; go_simp; first | done | rfl)
             simp only [Act.put, List.setIfInBounds_toArray, List.set_cons_zero, List.set_cons_succ]))
        refine wpTr_one ?_
        refine stepTr_K (by simp only [List.getElem?_toArray, List.getElem?_cons_zero, List.getElem?_cons_succ]; rfl) (by rfl) (fun K hK => ?_)
        go_simp
        refine (has2_any A ca la x d ((HRA2.out.below HBd.out).lt) (by simp only [maxLen]; omega) ba HBA.out).mono ?_
        rintro e u1 ⟨rfl, g4⟩
        have HB1 := Lib.hid (HBd.out.trans (g4.mono HBd.out.size))
        have HX1 := Lib.hid (HXd.out.after g4)
        have HO1 := Lib.hid (ow_below HOd.out g4)
        clear g4 HBd HXd HOd
        refine hK.out _ _ HB1.out ?_
        clear hK K
        try simp only [Act.put, List.setIfInBounds_toArray, List.set_cons_zero, List.set_cons_succ]
        refine wpTr_one ?_
        refine stepTr_K (by simp only [List.getElem?_toArray, List.getElem?_cons_zero, List.getElem?_cons_succ]; rfl) (by rfl) (fun K hK => ?_)
        go_simp
        refine (has2_any B cb lb x u1 ((HRB2.out.below HB1.out).lt) (by simp only [maxLen]; omega) bb HBB.out).mono ?_
        rintro e u2 ⟨rfl, g4⟩
        have HB3 := Lib.hid (HB1.out.trans (g4.mono HB1.out.size))
        have HX3 := Lib.hid (HX1.out.after g4)
        have HO3 := Lib.hid (ow_below HO1.out g4)
        clear g4 HB1 HX1 HO1
        refine hK.out _ _ HB3.out ?_
        clear hK K
        try simp only [Act.put, List.setIfInBounds_toArray, List.set_cons_zero, List.set_cons_succ]
        refine wpTr_one ?_
        refine stepTr_K (by simp only [List.getElem?_toArray, List.getElem?_cons_zero, List.getElem?_cons_succ]; rfl) (by rfl) (fun K hK => ?_)
        go_simp
        refine (keeps_any op HOP.out ba bb u2).mono ?_
        rintro e u3 ⟨rfl, hu⟩
        obtain rfl : u2 = u3 := hu
        rw [HKB.out]
        refine hK.out _ _ HB3.out ?_
        clear hK K
        try simp only [Act.put, List.setIfInBounds_toArray, List.set_cons_zero, List.set_cons_succ]
        repeat (first
          | (refine wpTr_fskip (by simp only [List.getElem?_toArray, List.getElem?_cons_zero, List.getElem?_cons_succ]; rfl) (by rfl) ?_
             simp only [Act.put, List.setIfInBounds_toArray, List.set_cons_zero, List.set_cons_succ])
          | (refine wpTr_float (v := ?_) (by simp only [List.getElem?_toArray, List.getElem?_cons_zero, List.getElem?_cons_succ]; rfl) (by rfl) (fun w' hS => ?_) ?_
             rotate_left
             (have hS' : Below v2.heap.size v2 w' := hS; have e1 := (hS'.cell (p := ⟨w.heap.size, 0, none⟩) HS2.out.2.1.lt).trans (HS2.out.2.1.cell 0); have e2 := (hS'.cell (p := ⟨w.heap.size + 1, 0, none⟩) HS2.out.2.2.lt).trans (HS2.out.2.2.cell 0); have e3 := ((hS'.cell (p := ⟨b, o + k, none⟩) hb).trans ((HB.out.cell (p := ⟨b, o + k, none⟩) hb).symm.trans hc)); simp at e1 e2; go_simp; first | done | rfl)
             simp only [Act.put, List.setIfInBounds_toArray, List.set_cons_zero, List.set_cons_succ]))
        refine wpTr_done ?_
        have hx3 := HX3.out.lt
        have y3 := HX3.out.cell 0
        have z3 := HX3.out.free 0
        simp at y3
        cases kk with
        | false =>
          have HN := Lib.hid (HCX.out.skip q1 (fun y h2 h3 h => by rw [HKX.out y h2 h3] at h; cases h))
          cases op' <;>
          · go_wp2
            go_roundw
            case rel => exact ⟨k + 1, n, c, false, A', out, by omega, by go_num, rfl, by omega, by rw [← HCE.out]; exact HN, HO3, HB3, HX3⟩
            case measure => simp [intOf]; omega
        | true =>
          cases op' with
          | true =>
            obtain ⟨os, a, rfl⟩ := HCX.out.on rfl
            have HN := Lib.hid (HCX.out.more q1 q2 (fun y h2 h3 => HKX.out y h2 h3))
            have hos : n = os.length + 1 := by have := HO3.out.1; rw [rgs_len] at this; simp at this; omega
            obtain ⟨m, hm'⟩ : ∃ m, m = os.length := ⟨_, rfl⟩
            obtain rfl : n = m + 1 := by omega
            have HMO := Lib.hid hm'
            clear hos hm'
            obtain ⟨g, cg, hg⟩ : ∃ g cg, Value.slice A' (m + 1) c = .slice (some ⟨g, 0, none⟩) (m + 1) cg := by
              rcases HO3.out.2 with ⟨h, h'⟩ | ⟨g, cap, cur, h, _⟩
              · omega
              · exact ⟨g, cap, h⟩
            obtain ⟨rfl, rfl⟩ : A' = some ⟨g, 0, none⟩ ∧ c = cg := by injection hg with e1 e2 e3; exact ⟨e1, e3⟩
            clear hg
            obtain ⟨g1, g2⟩ := rgs_get (l := os ++ [(a, x - 1)]) (k := m) (r := (a, x - 1)) (by rw [HMO.out]; simp)
            have c6 := (HO3.out.cellAt (m * 2 + 1) (by omega)).trans g2
            have f6 := HO3.out.frozenAt (m * 2 + 1)
            obtain ⟨t1, t2⟩ := HO3.out.stored (m * 2 + 1) (Value.int IntKind.i64 1114111)
            rw [rgs_last os a (x - 1) 1114111 m HMO.out] at t1
            have HO4 := Lib.hid t1
            have hbg := own_base HO3.out
            have HB4 := Lib.hid (HB3.out.grown t2 HB3.out.size (fun g' hg' => by have := hbg g' hg'; omega))
            have HX4 := Lib.hid (bk_grown HX3.out t2 (fun e => by have := hbg _ e.symm; omega))
            have k4 : IntKind.i64.wrap ((m : Int) + 1 - 1) = (m : Int) := by rw [show (m : Int) + 1 - 1 = m by omega]; exact IntWalk.i64_in _ (by omega)
            have k6 : (m : Int) + 1 - 1 = m := by omega
            clear g1 g2 t1 t2 hbg
            go_wp2
            go_roundw
            case rel => exact ⟨k + 1, m + 1, c, true, _, _, by omega, by go_num, rfl, by omega, by rw [← HCE.out]; exact HN, HO4, HB4, HX4⟩
            case measure => simp [intOf]; omega
          | false =>
            have HN := Lib.hid (HCX.out.open_ q3 q1 q2 (fun y h2 h3 => HKX.out y h2 h3))
            have hc5 : u2.cell? ⟨b, o + k, none⟩ = some (.int .i64 x) := by
              obtain ⟨b', o', x', e, _, hx', hc'⟩ := (HR2.out.below HB3.out).at_int h1
              injection e with e
              injection e with e1 e2
              subst e1 e2
              have := hx.out.symm.trans hx'.out
              injection this with this
              subst this
              exact hc'
            go_wp2_with fail
            obtain ⟨d, hd, HBd, HXd, HOd⟩ : ∃ d, d = u2.drew ∧ Hid (Below v2.heap.size v2 d) ∧ Hid (Blk d v2.heap.size 45 #[.slice A' n c]) ∧ Hid (d.ownsRow (v2.heap.size + 1) 71 2 (.slice A' n c) n (rgs out)) := ⟨_, rfl, below_drewN HB3.out 1, HX3.out, HO3.out⟩
            refine wp_region_tree (fun w' => Below v2.heap.size v2 w') (.float 0 (.float 2 (.float 3 (.float 4 (.float 5 (.float 6 (.float 7 (.two 1 (.one 8 (.one 9 (.float 10 (.one 11 .done)))) 8 (.one 1 (.one 9 (.float 10 (.one 11 .done)))))))))))) (by kernel_rfl) (by kernel_rfl) (fun _ _ d _ _ h => by cases d <;> exact h) (hd ▸ HBd.out) ?_
            rw [← hd]
            clear hd
            repeat (first
              | (refine wpTr_fskip (by simp only [List.getElem?_toArray, List.getElem?_cons_zero, List.getElem?_cons_succ]; rfl) (by rfl) ?_
                 simp only [Act.put, List.setIfInBounds_toArray, List.set_cons_zero, List.set_cons_succ])
              | (refine wpTr_float (v := ?_) (by simp only [List.getElem?_toArray, List.getElem?_cons_zero, List.getElem?_cons_succ]; rfl) (by rfl) (fun w' hS => ?_) ?_
                 rotate_left
                 (have hS' : Below v2.heap.size v2 w' := hS; have e1 := (hS'.cell (p := ⟨w.heap.size, 0, none⟩) HS2.out.2.1.lt).trans (HS2.out.2.1.cell 0); have e2 := (hS'.cell (p := ⟨w.heap.size + 1, 0, none⟩) HS2.out.2.2.lt).trans (HS2.out.2.2.cell 0); have e3 := ((hS'.cell (p := ⟨b, o + k, none⟩) hb).trans ((HB.out.cell (p := ⟨b, o + k, none⟩) hb).symm.trans hc)); simp at e1 e2; go_simp; first | done | rfl)
                 simp only [Act.put, List.setIfInBounds_toArray, List.set_cons_zero, List.set_cons_succ]))
            obtain ⟨v, hv, HBv, HXv, HOv⟩ : ∃ v, v = d.alloc (.cells #[.int .i64 x, .int .i64 1114111] 71) ∧ Hid (Below v2.heap.size v2 v) ∧ Hid (Blk v v2.heap.size 45 #[.slice A' n c]) ∧ Hid (v.ownsRow (v2.heap.size + 1) 71 2 (.slice A' n c) n (rgs out)) := ⟨_, rfl, HBd.out.alloc HBd.out.size _, HXd.out.alloc _, ow_alloc HOd.out _⟩
            have yd := HXd.out.cell 0
            have yv := HXv.out.cell 0
            simp at yd yv
            have HRV : Hid (Row v (d.heap.size + 1) (some ⟨d.heap.size, 0, none⟩) [.int .i64 x, .int .i64 1114111]) := by rw [hv]; exact row_lit d _ _
            have hvs := HXv.out.lt
            refine wpTr_two ?_ ?_
            · refine stepTr_K (by simp only [List.getElem?_toArray, List.getElem?_cons_zero, List.getElem?_cons_succ]; rfl) (by rfl) (fun K hK => ?_)
              go_simp
              refine hK.out _ _ HBd.out ?_
              clear hK K
              try simp only [Act.put, List.setIfInBounds_toArray, List.set_cons_zero, List.set_cons_succ]
              refine wpTr_one ?_
              refine stepTr_K (by simp only [List.getElem?_toArray, List.getElem?_cons_zero, List.getElem?_cons_succ]; rfl) (by rfl) (fun K hK => ?_)
              go_simp
              rw [← hv]
              clear hv
              refine hK.out _ _ HBv.out ?_
              clear hK K
              try simp only [Act.put, List.setIfInBounds_toArray, List.set_cons_zero, List.set_cons_succ]
              refine wpTr_one ?_
              refine stepTr_K (by simp only [List.getElem?_toArray, List.getElem?_cons_zero, List.getElem?_cons_succ]; rfl) (by rfl) (fun K hK => ?_)
              refine wp_append_row v (.tmp 67) (.tmp 74) _ rfl (v2.heap.size + 1) 71 i0 _ 2 16 Try.underlying43 hi0 hz0 hz1 hz2 rfl (by omega) (.slice A' n c) n (rgs out) rfl HOv.out _ _ 1 1 [Value.int .i64 x, Value.int .i64 1114111] rfl rfl HRV.out (by simp [Value.oneCell']) (by simp only [maxLen]; omega) (by omega) hvs ?_
              intro q4 w4 o4 g4 t4
              obtain ⟨A4, c4, rfl⟩ := ow_slice (m := n + 1) o4 rfl
              have hbg := own_base HOv.out
              have HB4 := Lib.hid (HBv.out.grown g4 HBv.out.size (fun g hg => by have := hbg g hg; omega))
              have HX4 := Lib.hid (bk_grown HXv.out g4 (fun e => by have := hbg _ e.symm; omega))
              have HO4 := Lib.hid (ow_set (p := ⟨v2.heap.size, 0, none⟩) (u := .slice A4 (n + 1) c4) o4 (Nat.lt_succ_self _))
              have y4 := HX4.out.cell 0
              have z4 := HX4.out.free 0
              simp at y4
              have HX5 : Hid (Blk (w4.setCell ⟨v2.heap.size, 0, none⟩ (.slice A4 (n + 1) c4)) v2.heap.size 45 #[.slice A4 (n + 1) c4]) := by
                have := HX4.out.set_ 0 (.slice A4 (n + 1) c4)
                show Blk _ _ _ _
                simpa using this
              have HB5 := Lib.hid (HB4.out.setCell (p := ⟨v2.heap.size, 0, none⟩) (Nat.le_refl _) (.slice A4 (n + 1) c4))
              clear o4 g4 t4 hbg
              refine hK.out _ _ HB4.out ?_
              clear hK K
              try simp only [Act.put, List.setIfInBounds_toArray, List.set_cons_zero, List.set_cons_succ]
              repeat (first
                | (refine wpTr_fskip (by simp only [List.getElem?_toArray, List.getElem?_cons_zero, List.getElem?_cons_succ]; rfl) (by rfl) ?_
                   simp only [Act.put, List.setIfInBounds_toArray, List.set_cons_zero, List.set_cons_succ])
                | (refine wpTr_float (v := ?_) (by simp only [List.getElem?_toArray, List.getElem?_cons_zero, List.getElem?_cons_succ]; rfl) (by rfl) (fun w' hS => ?_) ?_
                   rotate_left
                   (have hS' : Below v2.heap.size v2 w' := hS; have e1 := (hS'.cell (p := ⟨w.heap.size, 0, none⟩) HS2.out.2.1.lt).trans (HS2.out.2.1.cell 0); have e2 := (hS'.cell (p := ⟨w.heap.size + 1, 0, none⟩) HS2.out.2.2.lt).trans (HS2.out.2.2.cell 0); have e3 := ((hS'.cell (p := ⟨b, o + k, none⟩) hb).trans ((HB.out.cell (p := ⟨b, o + k, none⟩) hb).symm.trans hc)); simp at e1 e2; go_simp; first | done | rfl)
                   simp only [Act.put, List.setIfInBounds_toArray, List.set_cons_zero, List.set_cons_succ]))
              refine wpTr_one ?_
              refine stepTr_K (by simp only [List.getElem?_toArray, List.getElem?_cons_zero, List.getElem?_cons_succ]; rfl) (by rfl) (fun K hK => ?_)
              go_simp
              refine hK.out _ _ HB5.out ?_
              clear hK K
              try simp only [Act.put, List.setIfInBounds_toArray, List.set_cons_zero, List.set_cons_succ]
              refine wpTr_done ?_
              go_wp2
              go_roundw
              case rel => exact ⟨k + 1, n + 1, c4, true, A4, _, by omega, by go_num, rfl, by omega, by rw [← HCE.out]; exact HN, by rw [rgs_append]; exact HO4, HB5, HX5⟩
              case measure => simp [intOf]; omega
            · refine stepTr_K (by simp only [List.getElem?_toArray, List.getElem?_cons_zero, List.getElem?_cons_succ]; rfl) (by rfl) (fun K hK => ?_)
              go_simp
              rw [← hv]
              clear hv
              refine hK.out _ _ HBv.out ?_
              clear hK K
              try simp only [Act.put, List.setIfInBounds_toArray, List.set_cons_zero, List.set_cons_succ]
              refine wpTr_one ?_
              refine stepTr_K (by simp only [List.getElem?_toArray, List.getElem?_cons_zero, List.getElem?_cons_succ]; rfl) (by rfl) (fun K hK => ?_)
              go_simp
              refine hK.out _ _ HBv.out ?_
              clear hK K
              try simp only [Act.put, List.setIfInBounds_toArray, List.set_cons_zero, List.set_cons_succ]
              refine wpTr_one ?_
              refine stepTr_K (by simp only [List.getElem?_toArray, List.getElem?_cons_zero, List.getElem?_cons_succ]; rfl) (by rfl) (fun K hK => ?_)
              refine wp_append_row v (.tmp 67) (.tmp 74) _ rfl (v2.heap.size + 1) 71 i0 _ 2 16 Try.underlying43 hi0 hz0 hz1 hz2 rfl (by omega) (.slice A' n c) n (rgs out) rfl HOv.out _ _ 1 1 [Value.int .i64 x, Value.int .i64 1114111] rfl rfl HRV.out (by simp [Value.oneCell']) (by simp only [maxLen]; omega) (by omega) hvs ?_
              intro q4 w4 o4 g4 t4
              obtain ⟨A4, c4, rfl⟩ := ow_slice (m := n + 1) o4 rfl
              have hbg := own_base HOv.out
              have HB4 := Lib.hid (HBv.out.grown g4 HBv.out.size (fun g hg => by have := hbg g hg; omega))
              have HX4 := Lib.hid (bk_grown HXv.out g4 (fun e => by have := hbg _ e.symm; omega))
              have HO4 := Lib.hid (ow_set (p := ⟨v2.heap.size, 0, none⟩) (u := .slice A4 (n + 1) c4) o4 (Nat.lt_succ_self _))
              have y4 := HX4.out.cell 0
              have z4 := HX4.out.free 0
              simp at y4
              have HX5 : Hid (Blk (w4.setCell ⟨v2.heap.size, 0, none⟩ (.slice A4 (n + 1) c4)) v2.heap.size 45 #[.slice A4 (n + 1) c4]) := by
                have := HX4.out.set_ 0 (.slice A4 (n + 1) c4)
                show Blk _ _ _ _
                simpa using this
              have HB5 := Lib.hid (HB4.out.setCell (p := ⟨v2.heap.size, 0, none⟩) (Nat.le_refl _) (.slice A4 (n + 1) c4))
              clear o4 g4 t4 hbg
              refine hK.out _ _ HB4.out ?_
              clear hK K
              try simp only [Act.put, List.setIfInBounds_toArray, List.set_cons_zero, List.set_cons_succ]
              repeat (first
                | (refine wpTr_fskip (by simp only [List.getElem?_toArray, List.getElem?_cons_zero, List.getElem?_cons_succ]; rfl) (by rfl) ?_
                   simp only [Act.put, List.setIfInBounds_toArray, List.set_cons_zero, List.set_cons_succ])
                | (refine wpTr_float (v := ?_) (by simp only [List.getElem?_toArray, List.getElem?_cons_zero, List.getElem?_cons_succ]; rfl) (by rfl) (fun w' hS => ?_) ?_
                   rotate_left
                   (have hS' : Below v2.heap.size v2 w' := hS; have e1 := (hS'.cell (p := ⟨w.heap.size, 0, none⟩) HS2.out.2.1.lt).trans (HS2.out.2.1.cell 0); have e2 := (hS'.cell (p := ⟨w.heap.size + 1, 0, none⟩) HS2.out.2.2.lt).trans (HS2.out.2.2.cell 0); have e3 := ((hS'.cell (p := ⟨b, o + k, none⟩) hb).trans ((HB.out.cell (p := ⟨b, o + k, none⟩) hb).symm.trans hc)); simp at e1 e2; go_simp; first | done | rfl)
                   simp only [Act.put, List.setIfInBounds_toArray, List.set_cons_zero, List.set_cons_succ]))
              refine wpTr_one ?_
              refine stepTr_K (by simp only [List.getElem?_toArray, List.getElem?_cons_zero, List.getElem?_cons_succ]; rfl) (by rfl) (fun K hK => ?_)
              go_simp
              refine hK.out _ _ HB5.out ?_
              clear hK K
              try simp only [Act.put, List.setIfInBounds_toArray, List.set_cons_zero, List.set_cons_succ]
              refine wpTr_done ?_
              go_wp2
              go_roundw
              case rel => exact ⟨k + 1, n + 1, c4, true, A4, _, by omega, by go_num, rfl, by omega, by rw [← HCE.out]; exact HN, by rw [rgs_append]; exact HO4, HB5, HX5⟩
              case measure => simp [intOf]; omega
    · obtain rfl : k = cs.length := by omega
      have hnl : n = out.length := by have := HO.out.1; rw [rgs_len] at this; omega
      subst hnl
      rw [cut_end_all] at HCB
      obtain ⟨hrow, -, -⟩ := ow_row HO.out
      have HRW := Lib.hid hrow
      have HX9 := Lib.hid (HS2.out.1.2.below HB.out hv2)
      have y9 := HX9.out.cell 0
      have z9 := HX9.out.free 0
      simp at y9
      have HB9 := Lib.hid (HS2.out.1.1.trans (HB.out.mono HS2.out.1.1.size))
      clear hrow
      go_wp2
      refine bodyPost_ret (v := .agg #[.slice A' out.length c]) ?_ rfl ?_
      · have q0 := (HX9.out.set_ 0 (.slice A' out.length c)).cell 0
        simp at q0
        simp [results, Try.results72, go_sem, q0]
      · refine ⟨A', c, out, rfl, HCB.out.can, HCB.out.has, ?_, HB9.out.setCell (p := ⟨w.heap.size + 2, 0, none⟩) (by simp) _⟩
        have := row_one HX9.out (grown_set (grown_refl wr (some (w.heap.size + 2))) 0 (.slice A' out.length c)) HRW.out (Nat.le_refl _)
        simpa using this
end Go.Proofs.Ytjohoohdjlajcaa
