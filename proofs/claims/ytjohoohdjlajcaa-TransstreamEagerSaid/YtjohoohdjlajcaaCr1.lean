/-
  ref02.place, ref02.Cuts: walks.
-/
import Derived.Test.YtjohoohdjlajcaaProg
import Derived.Test.YtjohoohdjlajcaaBase
import Derived.Test.YtjohoohdjlajcaaApp
import Derived.Test.YtjohoohdjlajcaaOwn
import Derived.Test.YtjohoohdjlajcaaCs2
import Derived.Test.YtjohoohdjlajcaaCt2
import Derived.Laws.OwnMore
import Derived.WalkKit
import Derived.Deep.QuietTactic
import Derived.BigQuiet
import Derived.KernelRfl
import Derived.Outline
import Derived.IntWalk
namespace Go.Proofs.Ytjohoohdjlajcaa
open Go.RowKit Go.UtYtjohoohdjlajcaa
theorem int_inf : (Try.prog.info? 3).map (fun i => (i.zero, i.size, i.bytes)) = some (some (.int .i64 0), 1, 8) := by kernel_rfl
def PlS (n : Int) (l : List Int) (k : Nat) (d : Bool) (out : List Int) : Prop := (d = true → out ++ l.drop k = plc n l) ∧ (d = false → out = l.take k ∧ ∀ x ∈ l.take k, x < n)
theorem pl_start (n : Int) (l : List Int) : PlS n l 0 false [] := ⟨(fun h => by cases h), fun _ => ⟨rfl, fun x hx => by simp at hx⟩⟩
theorem drop_at {l : List Int} {k : Nat} {x : Int} (h : l[k]? = some x) : l.drop k = x :: l.drop (k + 1) := by
  obtain ⟨hk, e⟩ := List.getElem?_eq_some_iff.1 h
  rw [List.drop_eq_getElem_cons hk, e]
theorem take_at {l : List Int} {k : Nat} {x : Int} (h : l[k]? = some x) : l.take (k + 1) = l.take k ++ [x] := by
  obtain ⟨hk, e⟩ := List.getElem?_eq_some_iff.1 h
  rw [List.take_succ_eq_append_getElem hk, e]
theorem pl_keep {n : Int} {l : List Int} {k : Nat} {out : List Int} {x : Int} (h : PlS n l k true out) (hx : l[k]? = some x) : PlS n l (k + 1) true (out ++ [x]) :=
  ⟨fun _ => by rw [← h.1 rfl, drop_at hx]; simp, fun h => by cases h⟩
theorem pl_low {n : Int} {l : List Int} {k : Nat} {out : List Int} {x : Int} (h : PlS n l k false out) (hx : l[k]? = some x) (hn : x < n) : PlS n l (k + 1) false (out ++ [x]) := by
  obtain ⟨h1, h2⟩ := h.2 rfl
  refine ⟨(fun h => by cases h), fun _ => ⟨by rw [h1, take_at hx], fun y hy => ?_⟩⟩
  rw [take_at hx] at hy
  rcases List.mem_append.1 hy with hy | hy
  · exact h2 y hy
  · simp at hy; omega
theorem pl_at {n : Int} {l : List Int} {k : Nat} {out : List Int} {x : Int} (h : PlS n l k false out) (hx : l[k]? = some x) (hn : ¬ x < n) : out ++ (if n < x then [n] else []) ++ x :: l.drop (k + 1) = plc n l := by
  obtain ⟨h1, h2⟩ := h.2 rfl
  have := plc_at (m := l.drop (k + 1)) h2 hn
  rw [← drop_at hx, List.take_append_drop] at this
  rw [this, h1, drop_at hx]
theorem pl_eq {n : Int} {l : List Int} {k : Nat} {out : List Int} {x : Int} (h : PlS n l k false out) (hx : l[k]? = some x) (hn : ¬ x < n) (hg : ¬ n < x) : PlS n l (k + 1) true (out ++ [x]) :=
  ⟨fun _ => by have := pl_at h hx hn; rw [if_neg hg] at this; simpa using this, fun h => by cases h⟩
theorem pl_gt {n : Int} {l : List Int} {k : Nat} {out : List Int} {x : Int} (h : PlS n l k false out) (hx : l[k]? = some x) (hn : ¬ x < n) (hg : n < x) : PlS n l (k + 1) true (out ++ [n] ++ [x]) :=
  ⟨fun _ => by have := pl_at h hx hn; rw [if_pos hg] at this; simpa using this, fun h => by cases h⟩
theorem pl_end1 {n : Int} {l out : List Int} (h : PlS n l l.length true out) : out = plc n l := by simpa using h.1 rfl
theorem pl_end0 {n : Int} {l out : List Int} (h : PlS n l l.length false out) : out ++ [n] = plc n l := by
  obtain ⟨h1, h2⟩ := h.2 rfl
  rw [List.take_length] at h1 h2
  rw [h1, plc_low h2]
set_option maxRecDepth 100000 in
set_option maxHeartbeats 1000000 in
theorem place_any (A : Option Addr) (c : Nat) (l : List Int) (n : Int) (w : World) (hR : Row w w.heap.size A (ints l)) (hm : l.length ≤ 1000000) (r : List Int) (hr : plc n l = r) :
    Calls Try.prog 90 #[.slice A l.length c, .int .i64 n] w (RetI w r) := by
  have HR := Lib.hid hR
  have HE := Lib.hid hr
  clear hR hr
  obtain ⟨i0, hi0, hz0, hz1, hz2⟩ := info_parts int_inf
  go_enter Try.func90, Try.ntmps90
  go_wp2
  go_loopw [5, 6, 7] (fun p d i wr => ∃ (k n0 c0 : Nat) (A0 : Option Addr) (out : List Int) (dn : Bool), k ≤ l.length ∧ i = .int .i64 (k : Int) ∧ d = .bool dn ∧ p = .slice A0 n0 c0 ∧ n0 ≤ k + 1 ∧ Hid (PlS n l k dn out) ∧ Hid (wr.ownsRow w.heap.size 3 1 (.slice A0 n0 c0) n0 (ints out)) ∧ Hid (Below w.heap.size w wr)) (fun _ _ i _ => l.length - (intOf i).toNat)
  case atStart => exact ⟨0, 0, 0, none, [], false, by omega, rfl, rfl, rfl, by omega, pl_start n l, own_nil _, Below.refl _ _⟩
  case round =>
    obtain ⟨k, n0, c0, A0, out, dn, hk, rfl, rfl, rfl, hn0, HP, HO, HB⟩ := hrel
    by_cases h1 : k < l.length
    · obtain ⟨b, o, x, rfl, hb, hx, hc⟩ := (HR.out.below HB.out).at_int h1
      cases dn with
      | true =>
        have HP' := Lib.hid (pl_keep HP.out hx.out)
        go_wp2_with (first
          | (at_builtin
             refine wpList_append_row _ rfl (.tmp 34) (.tmp 39) _ rfl w.heap.size 3 i0 _ 1 8 Try.underlying31 hi0 hz0 hz1 hz2 rfl (by omega) (.slice A0 n0 c0) (n0) (ints out) rfl (ow_alloc HO.out _) _ _ 1 1 [Value.int .i64 x] rfl rfl (row_lit wr _ _) (ints_one1 _) (by simp only [maxLen]; omega) (by omega) (by have := HB.out.size; simp; omega) ?_
             intro q1 w1 o1 g1 t1
             obtain ⟨A1, c1, rfl⟩ := ow_slice (m := n0 + 1) o1 rfl
             rw [← ints_snoc] at o1
             have HB1 : Hid (Below w.heap.size w w1) := (HB.out.alloc HB.out.size _).grown g1 (by have := HB.out.size; simp; omega) (fun g hg => own_base HO.out g hg)
             have HO1 := Lib.hid o1
             clear o1 g1 t1))
        go_roundw
        case rel => exact ⟨k + 1, n0 + 1, c1, A1, _, true, by omega, by go_num, rfl, rfl, by omega, HP', HO1, HB1⟩
        case measure => simp [intOf]; omega
      | false =>
        by_cases h2 : x < n
        · have HP' := Lib.hid (pl_low HP.out hx.out h2)
          go_wp2_with (first
            | (at_builtin
               refine wpList_append_row _ rfl (.tmp 34) (.tmp 39) _ rfl w.heap.size 3 i0 _ 1 8 Try.underlying31 hi0 hz0 hz1 hz2 rfl (by omega) (.slice A0 n0 c0) (n0) (ints out) rfl (ow_alloc HO.out _) _ _ 1 1 [Value.int .i64 x] rfl rfl (row_lit wr _ _) (ints_one1 _) (by simp only [maxLen]; omega) (by omega) (by have := HB.out.size; simp; omega) ?_
               intro q1 w1 o1 g1 t1
               obtain ⟨A1, c1, rfl⟩ := ow_slice (m := n0 + 1) o1 rfl
               rw [← ints_snoc] at o1
               have HB1 : Hid (Below w.heap.size w w1) := (HB.out.alloc HB.out.size _).grown g1 (by have := HB.out.size; simp; omega) (fun g hg => own_base HO.out g hg)
               have HO1 := Lib.hid o1
               clear o1 g1 t1))
          go_roundw
          case rel => exact ⟨k + 1, n0 + 1, c1, A1, _, false, by omega, by go_num, rfl, rfl, by omega, HP', HO1, HB1⟩
          case measure => simp [intOf]; omega
        · by_cases h3 : n < x
          · have HP' := Lib.hid (pl_gt HP.out hx.out h2 h3)
            have hn1 : n0 ≤ k := by have := HO.out.1; rw [ints_len, (HP.out.2 rfl).1, List.length_take] at this; omega
            have h2' : n ≤ x := by omega
            go_wp2_with (first
              | (at_builtin
                 refine wpList_append_row _ rfl (.tmp 30) (.tmp 32) _ rfl w.heap.size 3 i0 _ 1 8 Try.underlying31 hi0 hz0 hz1 hz2 rfl (by omega) (.slice A0 n0 c0) (n0) (ints out) rfl (ow_alloc HO.out _) _ _ 1 1 [Value.int .i64 n] rfl rfl (row_lit wr _ _) (ints_one1 _) (by simp only [maxLen]; omega) (by omega) (by have := HB.out.size; simp; omega) ?_
                 intro q1 w1 o1 g1 t1
                 obtain ⟨A1, c1, rfl⟩ := ow_slice (m := n0 + 1) o1 rfl
                 rw [← ints_snoc] at o1
                 have HB1 : Hid (Below w.heap.size w w1) := (HB.out.alloc HB.out.size _).grown g1 (by have := HB.out.size; simp; omega) (fun g hg => own_base HO.out g hg)
                 have HO1 := Lib.hid o1
                 clear o1 g1 t1
                 have hc1 := (HB1.out.cell (p := ⟨b, o + k, none⟩) hb).trans ((HB.out.cell (p := ⟨b, o + k, none⟩) hb).symm.trans hc))
              | (at_builtin
                 refine wpList_append_row _ rfl (.tmp 34) (.tmp 39) _ rfl w.heap.size 3 i0 _ 1 8 Try.underlying31 hi0 hz0 hz1 hz2 rfl (by omega) (.slice A1 (n0 + 1) c1) (n0 + 1) (ints (out ++ [n])) rfl (ow_alloc HO1.out _) _ _ 1 1 [Value.int .i64 x] rfl rfl (row_lit w1 _ _) (ints_one1 _) (by simp only [maxLen]; omega) (by omega) (by have := HB1.out.size; simp; omega) ?_
                 intro q2 w2 o2 g2 t2
                 obtain ⟨A2, c2, rfl⟩ := ow_slice (m := n0 + 1 + 1) o2 rfl
                 rw [← ints_snoc] at o2
                 have HB2 : Hid (Below w.heap.size w w2) := (HB1.out.alloc HB1.out.size _).grown g2 (by have := HB1.out.size; simp; omega) (fun g hg => own_base HO1.out g hg)
                 have HO2 := Lib.hid o2
                 clear o2 g2 t2))
            go_roundw
            case rel => exact ⟨k + 1, n0 + 1 + 1, c2, A2, _, true, by omega, by go_num, rfl, rfl, by omega, HP', HO2, HB2⟩
            case measure => simp [intOf]; omega
          · have HP' := Lib.hid (pl_eq HP.out hx.out h2 h3)
            have h2' : n ≤ x := by omega
            go_wp2_with (first
              | (at_builtin
                 refine wpList_append_row _ rfl (.tmp 34) (.tmp 39) _ rfl w.heap.size 3 i0 _ 1 8 Try.underlying31 hi0 hz0 hz1 hz2 rfl (by omega) (.slice A0 n0 c0) (n0) (ints out) rfl (ow_alloc HO.out _) _ _ 1 1 [Value.int .i64 x] rfl rfl (row_lit wr _ _) (ints_one1 _) (by simp only [maxLen]; omega) (by omega) (by have := HB.out.size; simp; omega) ?_
                 intro q1 w1 o1 g1 t1
                 obtain ⟨A1, c1, rfl⟩ := ow_slice (m := n0 + 1) o1 rfl
                 rw [← ints_snoc] at o1
                 have HB1 : Hid (Below w.heap.size w w1) := (HB.out.alloc HB.out.size _).grown g1 (by have := HB.out.size; simp; omega) (fun g hg => own_base HO.out g hg)
                 have HO1 := Lib.hid o1
                 clear o1 g1 t1))
            go_roundw
            case rel => exact ⟨k + 1, n0 + 1, c1, A1, _, true, by omega, by go_num, rfl, rfl, by omega, HP', HO1, HB1⟩
            case measure => simp [intOf]; omega
    · obtain rfl : k = l.length := by omega
      cases dn with
      | true =>
        have HF := Lib.hid ((pl_end1 HP.out).trans HE.out)
        go_wp2
        go_ret
        obtain rfl : out = r := HF.out
        have hl : n0 = out.length := by have := HO.out.1; rw [ints_len] at this; omega
        subst hl
        obtain ⟨g1, g2, g3⟩ := ow_row HO.out
        exact ⟨A0, c0, rfl, g2, g3, g1, HB.out⟩
      | false =>
        have HF := Lib.hid ((pl_end0 HP.out).trans HE.out)
        go_wp2_with (first
          | (at_builtin
             refine wpList_append_row _ rfl (.tmp 43) (.tmp 45) _ rfl w.heap.size 3 i0 _ 1 8 Try.underlying31 hi0 hz0 hz1 hz2 rfl (by omega) (.slice A0 n0 c0) (n0) (ints out) rfl (ow_alloc HO.out _) _ _ 1 1 [Value.int .i64 n] rfl rfl (row_lit wr _ _) (ints_one1 _) (by simp only [maxLen]; omega) (by omega) (by have := HB.out.size; simp; omega) ?_
             intro q1 w1 o1 g1 t1
             obtain ⟨A1, c1, rfl⟩ := ow_slice (m := n0 + 1) o1 rfl
             rw [← ints_snoc] at o1
             have HB1 : Hid (Below w.heap.size w w1) := (HB.out.alloc HB.out.size _).grown g1 (by have := HB.out.size; simp; omega) (fun g hg => own_base HO.out g hg)
             have HO1 := Lib.hid o1
             clear o1 g1 t1))
        go_ret
        obtain rfl : out ++ [n] = r := HF.out
        have hl : n0 + 1 = (out ++ [n]).length := by have := HO1.out.1; rw [ints_len] at this; omega
        rw [hl] at HO1 ⊢
        obtain ⟨g1, g2, g3⟩ := ow_row HO1.out
        exact ⟨A1, c1, rfl, g2, g3, g1, HB1.out⟩
theorem take_rg {l : List Rg} {k : Nat} {r : Rg} (h : l[k]? = some r) : l.take (k + 1) = l.take k ++ [r] := by
  obtain ⟨hk, e⟩ := List.getElem?_eq_some_iff.1 h
  rw [List.take_succ_eq_append_getElem hk, e]
theorem cut_step {l : List Int} {rs : List Rg} {k : Nat} {lo hi : Int} (h : rs[k]? = some (lo, hi)) : (rs.take (k + 1)).foldl cut1 l = cut1 ((rs.take k).foldl cut1 l) (lo, hi) := by
  rw [take_rg h, List.foldl_append]
  rfl
set_option maxRecDepth 100000 in
set_option maxHeartbeats 1000000 in
theorem cuts_any (A B : Option Addr) (c d : Nat) (l : List Int) (rs : List Rg) (w : World) (hR : Row w w.heap.size A (ints l)) (hR2 : Row w w.heap.size B (rgs rs)) (hm : l.length ≤ 100000) (hm2 : rs.length ≤ 100000) (r : List Int) (hr : cutsR l rs = r) :
    Calls Try.prog 83 #[.slice A l.length c, .agg #[.slice B rs.length d]] w (RetI w r) := by
  have HE := Lib.hid hr
  have HB0 : Hid (Below w.heap.size w (w.alloc (.cells #[.slice B rs.length d] 45))) := (Below.refl _ _).alloc (Nat.le_refl _) _
  have HR := Lib.hid (hR.below HB0.out).lt
  have HR2 := Lib.hid hR2
  clear hR hR2 hr
  go_enter Try.func83, Try.ntmps83
  go_wp2
  go_loopw [0, 5] (fun p i wr => ∃ (k n0 c0 : Nat) (A0 : Option Addr) (cs : List Int), k ≤ rs.length ∧ i = .int .i64 (k : Int) ∧ p = .slice A0 n0 c0 ∧ n0 = cs.length ∧ Hid ((rs.take k).foldl cut1 l = cs) ∧ Hid (Row wr wr.heap.size A0 (ints cs)) ∧ Hid (Below w.heap.size w wr) ∧ Hid (Blk wr w.heap.size 45 #[.slice B rs.length d])) (fun _ i _ => rs.length - (intOf i).toNat)
  case atStart => exact ⟨0, _, c, A, l, by omega, rfl, rfl, rfl, rfl, HR, HB0, Blk.new _ _ _⟩
  case round =>
    obtain ⟨k, n0, c0, A0, cs, hk, rfl, rfl, rfl, HC, HR1, HB, HX⟩ := hrel
    have y0 := HX.out.cell 0
    simp at y0
    have hxl := HX.out.lt
    have hlen : cs.length ≤ 400000 := by
      have := cuts_len (rs.take k) l
      rw [HC.out, List.length_take] at this
      omega
    by_cases h1 : k < rs.length
    · obtain ⟨b, o, lo, hi, rfl, hb, hx, c1, c2⟩ := at_rg (HR2.out.below HB.out) h1
      have HST := Lib.hid (cut_step (l := l) hx.out)
      rw [HC.out] at HST
      have hlen2 := plc_len lo cs
      obtain ⟨m1, hm1⟩ : ∃ m1, plc lo cs = m1 := ⟨_, rfl⟩
      have HM1 := Lib.hid hm1
      rw [hm1] at hlen2
      clear hm1
      rcases Bool.eq_false_or_eq_true (vldB lo) with hv | hv
      all_goals
        have HV := Lib.hid hv
        clear hv
        by_cases h2 : 0 ≤ hi ∧ hi < 1114111
      · obtain ⟨h2, h3⟩ := h2
        have HN : Hid (cut1 cs (lo, hi) = plc (hi + 1) m1) := by
          show _ = _
          unfold cut1
          rw [if_pos (vld_of HV.out), if_pos ⟨h2, h3⟩, ← HM1.out]
        go_wp2
        go_quiet (fail)
        go_wp2_with (first
          | (go_at_call 37; refine (valid2_any _ _ _ HV.out).mono ?_; rintro e w' ⟨rfl, rfl⟩)
          | (go_at_call 90; refine (place_any A0 c0 cs lo _ (Row.drewN HR1.out nq) (by omega) m1 HM1.out).mono ?_; rintro e u1 ⟨A1, k1, rfl, g1, g2, g3, g4⟩; have HR3 := Lib.hid g3; have HB3 := Lib.hid ((below_drewN HB.out nq).trans (g4.mono HB.out.size)); have HX3 := Lib.hid ((HX.out.drewN nq).after g4); clear g1 g2 g3 g4 HR1)
          | (go_at_call 90; refine (place_any A1 k1 m1 (hi + 1) _ HR3.out (by omega) _ rfl).mono ?_; rintro e u2 ⟨A2, k2, rfl, g1, g2, g3, g4⟩; have HR4 := Lib.hid g3; have HB4 := Lib.hid (HB3.out.trans (g4.mono HB3.out.size)); have HX4 := Lib.hid (HX3.out.after g4); clear g1 g2 g3 g4 HR3 HB3 HX3))
        go_roundw
        case rel => exact ⟨k + 1, _, k2, A2, _, by omega, by go_num, rfl, rfl, HST.out.trans HN.out, HR4, HB4, HX4⟩
        case measure => simp [intOf]; omega
      · have HN : Hid (cut1 cs (lo, hi) = m1) := by
          show _ = _
          unfold cut1
          rw [if_pos (vld_of HV.out), if_neg h2, ← HM1.out]
        by_cases h4 : 0 ≤ hi
        all_goals
          first | have h5 : ¬ hi < 1114111 := fun h => h2 ⟨h4, h⟩ | skip
          clear h2
          go_wp2
          go_quiet (fail)
          go_wp2_with (first
            | (go_at_call 37; refine (valid2_any _ _ _ HV.out).mono ?_; rintro e w' ⟨rfl, rfl⟩)
            | (go_at_call 90; refine (place_any A0 c0 cs lo _ (Row.drewN HR1.out nq) (by omega) m1 HM1.out).mono ?_; rintro e u1 ⟨A1, k1, rfl, g1, g2, g3, g4⟩; have HR3 := Lib.hid g3; have HB3 := Lib.hid ((below_drewN HB.out nq).trans (g4.mono HB.out.size)); have HX3 := Lib.hid ((HX.out.drewN nq).after g4); clear g1 g2 g3 g4 HR1))
          go_roundw
          case rel => exact ⟨k + 1, _, k1, A1, _, by omega, by go_num, rfl, rfl, HST.out.trans HN.out, HR3, HB3, HX3⟩
          case measure => simp [intOf]; omega
      · obtain ⟨h2, h3⟩ := h2
        have HN : Hid (cut1 cs (lo, hi) = plc (hi + 1) cs) := by
          show _ = _
          unfold cut1
          rw [if_neg (vld_off HV.out), if_pos ⟨h2, h3⟩]
        go_wp2
        go_quiet (fail)
        go_wp2_with (first
          | (go_at_call 37; refine (valid2_any _ _ _ HV.out).mono ?_; rintro e w' ⟨rfl, rfl⟩)
          | (go_at_call 90; refine (place_any A0 c0 cs (hi + 1) _ (Row.drewN HR1.out nq) (by omega) _ rfl).mono ?_; rintro e u1 ⟨A1, k1, rfl, g1, g2, g3, g4⟩; have HR3 := Lib.hid g3; have HB3 := Lib.hid ((below_drewN HB.out nq).trans (g4.mono HB.out.size)); have HX3 := Lib.hid ((HX.out.drewN nq).after g4); clear g1 g2 g3 g4 HR1))
        go_roundw
        case rel => exact ⟨k + 1, _, k1, A1, _, by omega, by go_num, rfl, rfl, HST.out.trans HN.out, HR3, HB3, HX3⟩
        case measure => simp [intOf]; omega
      · have HN : Hid (cut1 cs (lo, hi) = cs) := by
          show _ = _
          unfold cut1
          rw [if_neg (vld_off HV.out), if_neg h2]
        by_cases h4 : 0 ≤ hi
        all_goals
          first | have h5 : ¬ hi < 1114111 := fun h => h2 ⟨h4, h⟩ | skip
          clear h2
          go_wp2
          go_quiet (fail)
          go_wp2_with (first
            | (go_at_call 37; refine (valid2_any _ _ _ HV.out).mono ?_; rintro e w' ⟨rfl, rfl⟩))
          go_roundw
          case rel => exact ⟨k + 1, _, c0, A0, _, by omega, by go_num, rfl, rfl, HST.out.trans HN.out, HR1, below_drewN HB.out _, HX⟩
          case measure => simp [intOf]; omega
    · obtain rfl : k = rs.length := by omega
      rw [List.take_length] at HC
      have HF : Hid (plc 0 cs = r) := by show _ = _; rw [← HE.out, ← HC.out]; rfl
      go_wp2_with (first
        | (go_at_call 90; refine (place_any A0 c0 cs 0 _ HR1.out (by omega) r HF.out).mono ?_; rintro e u1 ⟨A1, k1, rfl, g1, g2, g3, g4⟩))
      go_ret
      exact ⟨A1, k1, rfl, g1, g2, g3, HB.out.trans (g4.mono HB.out.size)⟩
end Go.Proofs.Ytjohoohdjlajcaa
