/-
  segment.Parts, ref30.Between, ref30.Parts; Around of both (printed by bs2.py).
-/
import Derived.Test.YtkoojoogddndnaaBs1
import Derived.Test.YtkoojoogddndnaaBq5
namespace Go.UtYtkoojoogddndnaa
/-- the parts of a text -/
noncomputable def ptsL (p : PR) (t : BT) (text : List Int) : List (Int × Int) := prtL (acV p t text)
theorem acV_full {p : PR} {t : BT} {text : List Int} (h : validT t) : (acV p t text).length = text.length + 1 := by
  unfold acV
  rw [if_pos h]
  simp [actsL, clsL]
theorem pts_btw {p : PR} {t : BT} {text : List Int} (h : validT t) : btwL (bndL p t text) (text.length : Int) = ptsL p t text := by
  unfold ptsL
  rw [prtL_btw (acV_full h), bnd_eq]
theorem pts_none {p : PR} {t : BT} {text : List Int} (h : ¬ validT t) : ptsL p t text = [] := by
  unfold ptsL acV
  rw [if_neg h]
  rfl
def arV (l : List (Int × Int)) (a : Int) : Int × Int × Bool := match arL l a with | some r => (r.1, r.2, true) | none => (0, 0, false)
end Go.UtYtkoojoogddndnaa
namespace Go.Proofs.Ytkoojoogddndnaa
open Go.RowKit Go.UtYtkoojoogddndnaa
theorem pts_len (p : PR) (t : BT) (text : List Int) : (ptsL p t text).length ≤ text.length + 1 := by
  unfold ptsL prtL
  exact Nat.le_trans (prtN_len _ _ _) (acV_len p t text)
theorem Row.at_rng {w : World} {B : Nat} {A : Option Addr} {l : List (Int × Int)} (h : Row w B A (rng l)) {k : Nat} (hk : k < l.length) : ∃ b o x y, A = some ⟨b, o, none⟩ ∧ b < B ∧ Hid (l[k]? = some (x, y)) ∧ w.cell? ⟨b, o + k * 2, none⟩ = some (.int .i64 x) ∧ w.cell? ⟨b, o + k * 2 + 1, none⟩ = some (.int .i64 y) := by
  obtain ⟨b, o, e, hb, hc⟩ := h (fun e => by have := rng_len l; rw [e] at this; simp at this; omega)
  have hg := List.getElem?_eq_getElem hk
  have hget : ∀ (l : List (Int × Int)) (k : Nat) (s : Int × Int), l[k]? = some s → (rng l)[k * 2]? = some (.int .i64 s.1) ∧ (rng l)[k * 2 + 1]? = some (.int .i64 s.2) := by
    intro l
    induction l with
    | nil => intro k s h; simp at h
    | cons z l ih =>
      intro k s h
      cases k with
      | zero =>
        simp at h
        subst h
        simp [rng]
      | succ k =>
        have := ih k s (by simpa using h)
        rw [show (k + 1) * 2 = k * 2 + 2 by omega, show k * 2 + 2 + 1 = k * 2 + 1 + 2 by omega]
        simpa [rng] using this
  obtain ⟨g1, g2⟩ := hget l k l[k] hg
  exact ⟨b, o, l[k].1, l[k].2, e, hb, hg, hc _ _ g1, by rw [Nat.add_assoc]; exact hc _ _ g2⟩
set_option maxRecDepth 100000 in
set_option maxHeartbeats 2000000 in
theorem parts_any (x : PA) (p : PR) (y : TA) (t : BT) (At : Option Addr) (ct : Nat) (text : List Int) (w : World) (h : PrAt w w.heap.size x p) (hsp : p.spans.length ≤ 100000) (hY : TabAt w w.heap.size y t) (hsm : t.cls.length ≤ 1000 ∧ t.act.length ≤ 1000) (hT : Row w w.heap.size At (ints text)) (hll : text.length ≤ 10000) :
    Calls Try.prog 41 #[x.val p, y.val t, .slice At text.length ct] w (RetR w (ptsL p t text)) := by
  have CA := Lib.hid (fun (u : World) (hu : Below w.heap.size w u) => actionsS_any x p y t At ct text u (h.below hu).lt hsp (hY.below hu).lt hsm (hT.below hu).lt hll)
  have hal := acV_len p t text
  unfold PA.val at CA ⊢
  unfold TA.val at CA ⊢
  unfold RetI at CA
  unfold ptsL
  obtain ⟨w1, hw1, HB1, HK1⟩ := boxV w 41 #[.slice x.n p.names.length x.cn, .slice x.s p.spans.length x.cs]
  obtain ⟨w2, hw2, HB2', HK2'⟩ := boxT w1 28 y t
  have HB2 := Lib.hid (HB1.out.trans (HB2'.out.mono HB1.out.size))
  have HK2 := Lib.hid (HK1.out.after HB2'.out)
  have hs1 : w1.heap.size = w.heap.size + 1 := by rw [hw1]; simp
  obtain ⟨g, hg⟩ : ∃ g, g = w1.heap.size := ⟨_, rfl⟩
  rw [← hg] at HK2'
  have hgw : g = w.heap.size + 1 := by omega
  obtain ⟨q0, q1, ql⟩ := blk2 HK2.out
  obtain ⟨r0, r1, r2, r3, r4, r5, rl⟩ := tab6 HK2'.out
  obtain ⟨n, hn⟩ : ∃ n, text.length = n := ⟨_, rfl⟩
  rw [hn] at CA hll hal ⊢
  obtain ⟨acts, hb⟩ : ∃ b, acV p t text = b := ⟨_, rfl⟩
  rw [hb] at CA hal ⊢
  obtain ⟨N, hN⟩ : ∃ n, acts.length = n := ⟨_, rfl⟩
  rw [hN] at CA hal
  have HNN := Lib.hid hN
  clear h hY hT hn hN hb
  go_enter Try.func41, Try.ntmps41
  go_upto_region 1 with fail
  rw [← hw1, ← hw2, ← hgw]
  clear hw1 hw2 hs1 hg hgw
  go_wp2_with fail
  refine (CA.out w2 HB2.out).mono ?_
  rintro e w3 ⟨A3, c3, rfl, g1, g2, hr3, hb3⟩
  have HB3 := Lib.hid (HB2.out.trans (hb3.mono HB2.out.size))
  have HRL := Lib.hid hr3
  clear hr3 hb3 g1 g2 q0 q1 ql r0 r1 r2 r3 r4 r5 rl
  obtain ⟨w4, hw4, HB4', HK4⟩ := boxV w3 23 #[.slice A3 N c3]
  have HB4 := Lib.hid (HB3.out.trans (HB4'.out.mono HB3.out.size))
  go_wp2_with fail
  refine (partsC_any A3 N c3 w3).mono ?_
  rintro e w4' ⟨rfl, hw4'⟩
  rw [← hw4] at hw4'
  subst hw4'
  clear hw4
  go_wp2_with fail
  refine (collect_any w3.heap.size A3 N c3 acts w4' HK4.out (HRL.out.below HB4'.out).lt HNN.out (by omega)).mono ?_
  rintro e w5 ⟨A5, c5, rfl, h1, h2, h3, h4⟩
  have HB5 := Lib.hid (HB4.out.trans (h4.mono HB4.out.size))
  have HR5 := Lib.hid h3
  clear h3 h4
  go_wp2
  go_ret
  exact ⟨A5, c5, rfl, h1, h2, HR5.out, HB5.out⟩
set_option maxRecDepth 100000 in
set_option maxHeartbeats 2000000 in
theorem between_any (A : Option Addr) (c N : Nat) (l : List Int) (n : Nat) (w : World) (hl : Row w w.heap.size A (ints l)) (hN : l.length = N) (hll : N ≤ 100000) (_hn : n ≤ 100000) :
    Calls Try.prog 62 #[.slice A N c, .int .i64 (n : Int)] w (RetR w (btwL l (n : Int))) := by
  have HL := Lib.hid hl
  have HN := Lib.hid hN
  obtain ⟨i0, hi0, hz0, hz1, hz2⟩ := info_parts rng_info
  clear hl hN
  go_enter Try.func62, Try.ntmps62
  go_wp2
  go_loopw [5, 6, 7] (fun o f i wr => ∃ (j no c : Nat) (A : Option Addr) (fr : Int) (out : List (Int × Int)), j ≤ N + 1 ∧ i = .int .i64 (j : Int) ∧ f = .int .i64 fr ∧ o = .slice A no c ∧ no ≤ j ∧ Hid (((l ++ [(n : Int)]).take j).foldl btwS ([], 0) = (out, fr)) ∧ Hid (wr.ownsRow w.heap.size 46 2 (.slice A no c) no (rng out)) ∧ Hid (Below w.heap.size w wr)) (fun _ _ i _ => N + 1 - (intOf i).toNat)
  case atStart => exact ⟨0, 0, 0, none, 0, [], by omega, rfl, rfl, rfl, by omega, rfl, own_nil _, Below.refl _ _⟩
  case round =>
    obtain ⟨j, no, c', A', fr, out, hj, rfl, rfl, rfl, hno, HF, HO, HB⟩ := hrel
    have hbs := HB.out.size
    by_cases hjN : j ≤ N
    · obtain ⟨tt, HTO⟩ : ∃ tt, Hid ((l ++ [(n : Int)])[j]? = some tt) := ⟨_, List.getElem?_eq_getElem (by simp [HN.out]; omega)⟩
      have HS : Hid (((l ++ [(n : Int)]).take (j + 1)).foldl btwS ([], 0) = btwS (out, fr) tt) := Lib.hid (by
        obtain ⟨g1, g2⟩ := List.getElem?_eq_some_iff.1 HTO.out
        rw [List.take_succ_eq_append_getElem g1, g2, List.foldl_append, HF.out]
        rfl)
      by_cases hj2 : j < N
      · obtain ⟨b, o, tt', rfl, hb, hx, cc⟩ := (HL.out.below HB.out).at_int (k := j) (by rw [HN.out]; exact hj2)
        obtain rfl : tt = tt' := by
          have h1 := HTO.out
          rw [List.getElem?_append_left (by rw [HN.out]; exact hj2), hx.out] at h1
          exact (Option.some.inj h1).symm
        have hbl : b < wr.heap.size := by omega
        by_cases hgt : fr < tt
        · have d1 : decide (fr < tt) = true := decide_eq_true hgt
          have HS' : Hid (((l ++ [(n : Int)]).take (j + 1)).foldl btwS ([], 0) = (out ++ [(fr, tt)], tt)) := Lib.hid (by rw [HS.out]; unfold btwS; rw [if_pos hgt])
          go_wp2_with (first
            | (at_builtin
               refine wpList_append_row _ rfl (.tmp 27) (.tmp 31) _ rfl w.heap.size 46 i0 _ 2 16 Try.underlying70 hi0 hz0 hz1 hz2 rfl (by omega) (.slice A' no c') no (rng out) rfl (ow_alloc HO.out _) _ _ 1 1 [.int .i64 fr, .int .i64 tt] rfl rfl (row_lit wr _ _) (two_one _ _) (by simp only [maxLen]; omega) (by omega) (by simp; omega) ?_
               intro q5 w8 o5 g5 t5
               obtain ⟨A8, c8, rfl⟩ := ow_slice (m := no + 1) o5 rfl
               rw [← rng_snoc] at o5
               have HB8 : Hid (Below w.heap.size w w8) := (HB.out.alloc hbs _).grown g5 (by simp; omega) (fun g hg => own_base HO.out g hg)
               have HO8 := Lib.hid o5
               clear o5 g5 t5))
          go_roundw
          case rel => exact ⟨j + 1, no + 1, c8, A8, tt, _, by omega, by go_num, rfl, rfl, by omega, HS', HO8, HB8⟩
          case measure => simp [intOf] <;> omega
        · have d1 : decide (fr < tt) = false := decide_eq_false hgt
          have HS' : Hid (((l ++ [(n : Int)]).take (j + 1)).foldl btwS ([], 0) = (out, fr)) := Lib.hid (by rw [HS.out]; unfold btwS; rw [if_neg hgt])
          go_wp2
          go_roundw
          case rel => exact ⟨j + 1, no, c', A', fr, out, by omega, by go_num, rfl, rfl, by omega, HS', HO, HB⟩
          case measure => simp [intOf] <;> omega
      · obtain rfl : j = N := by omega
        obtain rfl : tt = (n : Int) := by
          have h1 := HTO.out
          rw [List.getElem?_append_right (by rw [HN.out]; exact Nat.le_refl _), HN.out, Nat.sub_self] at h1
          simpa using h1.symm
        by_cases hgt : fr < (n : Int)
        · have d1 : decide (fr < (n : Int)) = true := decide_eq_true hgt
          have HS' : Hid (((l ++ [(n : Int)]).take (j + 1)).foldl btwS ([], 0) = (out ++ [(fr, (n : Int))], (n : Int))) := Lib.hid (by rw [HS.out]; unfold btwS; rw [if_pos hgt])
          go_wp2_with (first
            | (at_builtin
               refine wpList_append_row _ rfl (.tmp 27) (.tmp 31) _ rfl w.heap.size 46 i0 _ 2 16 Try.underlying70 hi0 hz0 hz1 hz2 rfl (by omega) (.slice A' no c') no (rng out) rfl (ow_alloc HO.out _) _ _ 1 1 [.int .i64 fr, .int .i64 (n : Int)] rfl rfl (row_lit wr _ _) (two_one _ _) (by simp only [maxLen]; omega) (by omega) (by simp; omega) ?_
               intro q5 w8 o5 g5 t5
               obtain ⟨A8, c8, rfl⟩ := ow_slice (m := no + 1) o5 rfl
               rw [← rng_snoc] at o5
               have HB8 : Hid (Below w.heap.size w w8) := (HB.out.alloc hbs _).grown g5 (by simp; omega) (fun g hg => own_base HO.out g hg)
               have HO8 := Lib.hid o5
               clear o5 g5 t5))
          go_roundw
          case rel => exact ⟨j + 1, no + 1, c8, A8, (n : Int), _, by omega, by go_num, rfl, rfl, by omega, HS', HO8, HB8⟩
          case measure => simp [intOf] <;> omega
        · have d1 : decide (fr < (n : Int)) = false := decide_eq_false hgt
          have HS' : Hid (((l ++ [(n : Int)]).take (j + 1)).foldl btwS ([], 0) = (out, fr)) := Lib.hid (by rw [HS.out]; unfold btwS; rw [if_neg hgt])
          go_wp2
          go_roundw
          case rel => exact ⟨j + 1, no, c', A', fr, out, by omega, by go_num, rfl, rfl, by omega, HS', HO, HB⟩
          case measure => simp [intOf] <;> omega
    · obtain rfl : j = N + 1 := by omega
      have HE : Hid (btwL l (n : Int) = out) := Lib.hid (by
        have := HF.out
        rw [List.take_of_length_le (by simp [HN.out])] at this
        unfold btwL
        rw [this])
      go_wp2
      go_ret
      obtain ⟨r1, r2, r3⟩ := ow_row HO.out
      have hle := HO.out.1
      rw [rng_len] at hle
      obtain rfl : out.length = no := by omega
      rw [HE.out]
      exact ⟨A', c', rfl, r2, r3, r1, HB.out⟩
set_option maxRecDepth 100000 in
set_option maxHeartbeats 2000000 in
theorem rparts_any (x : PA) (p : PR) (y : TA) (t : BT) (At : Option Addr) (ct : Nat) (text : List Int) (w : World) (h : PrAt w w.heap.size x p) (hsp : p.spans.length ≤ 100000) (hY : TabAt w w.heap.size y t) (hsm : t.cls.length ≤ 1000 ∧ t.act.length ≤ 1000) (hT : Row w w.heap.size At (ints text)) (hll : text.length ≤ 10000) :
    Calls Try.prog 42 #[x.val p, y.val t, .slice At text.length ct] w (RetR w (ptsL p t text)) := by
  have CV := Lib.hid (fun (u : World) (hu : Below w.heap.size w u) (v : Bool) (hv : v = true ↔ validT t) => valid29_any y t u (hY.below hu).lt hsm v hv)
  have CB := Lib.hid (fun (u : World) (hu : Below w.heap.size w u) => rbounds_any x p y t At ct text u (h.below hu).lt hsp (hY.below hu).lt hsm (hT.below hu).lt hll)
  have hbl := bnd_len p t text
  unfold PA.val at CB ⊢
  unfold TA.val at CV CB ⊢
  unfold RetI at CB
  obtain ⟨w1, hw1, HB1, HK1⟩ := boxV w 41 #[.slice x.n p.names.length x.cn, .slice x.s p.spans.length x.cs]
  obtain ⟨w2, hw2, HB2', HK2'⟩ := boxT w1 28 y t
  have HB2 := Lib.hid (HB1.out.trans (HB2'.out.mono HB1.out.size))
  have HK2 := Lib.hid (HK1.out.after HB2'.out)
  have hs1 : w1.heap.size = w.heap.size + 1 := by rw [hw1]; simp
  obtain ⟨g, hg⟩ : ∃ g, g = w1.heap.size := ⟨_, rfl⟩
  rw [← hg] at HK2'
  have hgw : g = w.heap.size + 1 := by omega
  obtain ⟨q0, q1, ql⟩ := blk2 HK2.out
  obtain ⟨r0, r1, r2, r3, r4, r5, rl⟩ := tab6 HK2'.out
  have HPT : Hid (validT t → btwL (bndL p t text) (text.length : Int) = ptsL p t text) := Lib.hid (fun h => pts_btw h)
  obtain ⟨n, hn⟩ : ∃ n, text.length = n := ⟨_, rfl⟩
  rw [hn] at CB hll hbl HPT ⊢
  obtain ⟨b, hb⟩ : ∃ b, bndL p t text = b := ⟨_, rfl⟩
  rw [hb] at CB hbl HPT
  obtain ⟨N, hN⟩ : ∃ n, b.length = n := ⟨_, rfl⟩
  rw [hN] at CB hbl
  have HNN := Lib.hid hN
  clear h hY hT hn hN hb
  by_cases gv : validT t
  · have HE : Hid (ptsL p t text = btwL b (n : Int)) := Lib.hid (HPT.out gv).symm
    obtain ⟨pts, hpts⟩ : ∃ l, ptsL p t text = l := ⟨_, rfl⟩
    rw [hpts] at HE ⊢
    have hnn : n ≤ 100000 := by omega
    clear hpts
    go_enter Try.func42, Try.ntmps42
    go_upto_region 1 with fail
    rw [← hw1, ← hw2, ← hgw]
    clear hw1 hw2 hs1 hg hgw
    go_wp2_with fail
    refine (CV.out w2 HB2.out true ⟨fun _ => gv, fun _ => rfl⟩).mono ?_
    rintro e w3 ⟨rfl, hb3⟩
    have HB3 := Lib.hid (HB2.out.trans (hb3.mono HB2.out.size))
    have HK3 := Lib.hid (HK2.out.after hb3)
    have HT3 := Lib.hid (HK2'.out.after hb3)
    clear hb3 q0 q1 ql r0 r1 r2 r3 r4 r5 rl
    obtain ⟨q0, q1, ql⟩ := blk2 HK3.out
    obtain ⟨r0, r1, r2, r3, r4, r5, rl⟩ := tab6 HT3.out
    go_wp2_with fail
    refine (CB.out w3 HB3.out).mono ?_
    rintro e w4 ⟨A4, c4, rfl, g1, g2, hr4, hb4⟩
    have HB4 := Lib.hid (HB3.out.trans (hb4.mono HB3.out.size))
    have HRL := Lib.hid hr4
    clear hr4 hb4 g1 g2 q0 q1 ql r0 r1 r2 r3 r4 r5 rl
    go_wp2_with fail
    refine (between_any A4 c4 N b n w4 HRL.out HNN.out (by omega) hnn).mono ?_
    rintro e w5 ⟨A5, c5, rfl, h1, h2, h3, h4⟩
    have HB5 := Lib.hid (HB4.out.trans (h4.mono HB4.out.size))
    have HR5 := Lib.hid h3
    clear h3 h4
    go_wp2
    go_ret
    rw [HE.out]
    exact ⟨A5, c5, rfl, h1, h2, HR5.out, HB5.out⟩
  · rw [pts_none gv]
    go_enter Try.func42, Try.ntmps42
    go_upto_region 1 with fail
    rw [← hw1, ← hw2, ← hgw]
    clear hw1 hw2 hs1 hg hgw
    go_wp2_with fail
    refine (CV.out w2 HB2.out false ⟨fun h => (by cases h), fun h => absurd h gv⟩).mono ?_
    rintro e w3 ⟨rfl, hb3⟩
    have HB3 := Lib.hid (HB2.out.trans (hb3.mono HB2.out.size))
    clear hb3
    go_wp2
    go_ret
    exact ⟨none, 0, rfl, by simp, by simp [maxLen], Row.nil, HB3.out⟩
set_option maxRecDepth 100000 in
set_option maxHeartbeats 2000000 in
theorem around_any (x : PA) (p : PR) (y : TA) (t : BT) (At : Option Addr) (ct : Nat) (text : List Int) (w : World) (h : PrAt w w.heap.size x p) (hsp : p.spans.length ≤ 100000) (hY : TabAt w w.heap.size y t) (hsm : t.cls.length ≤ 1000 ∧ t.act.length ≤ 1000) (hT : Row w w.heap.size At (ints text)) (hll : text.length ≤ 10000) (a : Int) (rl0 rh0 : Int) (ok0 : Bool) (hr : arV (ptsL p t text) a = (rl0, rh0, ok0)) :
    Calls Try.prog 20 #[x.val p, y.val t, .slice At text.length ct, .int .i64 a] w fun e w' => e = .returned (.tuple #[.agg #[.int .i64 rl0, .int .i64 rh0], .bool ok0]) ∧ Below w.heap.size w w' := by
  have CB := Lib.hid (fun (u : World) (hu : Below w.heap.size w u) => parts_any x p y t At ct text u (h.below hu).lt hsp (hY.below hu).lt hsm (hT.below hu).lt hll)
  have hpl := pts_len p t text
  have HR := Lib.hid hr
  unfold PA.val at CB ⊢
  unfold TA.val at CB ⊢
  unfold RetR at CB
  obtain ⟨w1, hw1, HB1, HK1⟩ := boxV w 41 #[.slice x.n p.names.length x.cn, .slice x.s p.spans.length x.cs]
  obtain ⟨w2, hw2, HB2', HK2'⟩ := boxT w1 28 y t
  have HB2 := Lib.hid (HB1.out.trans (HB2'.out.mono HB1.out.size))
  have HK2 := Lib.hid (HK1.out.after HB2'.out)
  have hs1 : w1.heap.size = w.heap.size + 1 := by rw [hw1]; simp
  obtain ⟨g, hg⟩ : ∃ g, g = w1.heap.size := ⟨_, rfl⟩
  rw [← hg] at HK2'
  have hgw : g = w.heap.size + 1 := by omega
  obtain ⟨q0, q1, ql⟩ := blk2 HK2.out
  obtain ⟨r0, r1, r2, r3, r4, r5, rl⟩ := tab6 HK2'.out
  obtain ⟨w3, hw3, HB3', HK3'⟩ := boxV w2 46 #[.int .i64 0, .int .i64 0]
  have HB3 := Lib.hid (HB2.out.trans (HB3'.out.mono HB2.out.size))
  have HK3 := Lib.hid (HK2.out.after HB3'.out)
  have HT3 := Lib.hid (HK2'.out.after HB3'.out)
  have hs2 : w2.heap.size = w1.heap.size + 1 := by rw [hw2]; simp
  obtain ⟨g3, hg3⟩ : ∃ g, g = w2.heap.size := ⟨_, rfl⟩
  rw [← hg3] at HK3'
  have hgw3 : g3 = w.heap.size + 1 + 1 := by omega
  have h3g : g3 ≠ g := by omega
  have h3w : w.heap.size ≤ g3 := by omega
  clear q0 q1 ql r0 r1 r2 r3 r4 r5 rl
  obtain ⟨q0, q1, ql⟩ := blk2 HK3.out
  obtain ⟨r0, r1, r2, r3, r4, r5, rl⟩ := tab6 HT3.out
  obtain ⟨n, hn⟩ : ∃ n, text.length = n := ⟨_, rfl⟩
  rw [hn] at CB hll hpl ⊢
  obtain ⟨b, hb⟩ : ∃ b, ptsL p t text = b := ⟨_, rfl⟩
  rw [hb] at CB hpl HR
  obtain ⟨N, hN⟩ : ∃ n, b.length = n := ⟨_, rfl⟩
  rw [hN] at CB hpl
  have HNN := Lib.hid hN
  clear h hY hT hn hN hb hr
  go_enter Try.func20, Try.ntmps20
  go_upto_region 1 with fail
  rw [← hw1, ← hw2, ← hw3, ← hgw3, ← hgw]
  clear hw1 hw2 hw3 hs1 hs2 hg hgw hg3 hgw3
  go_wp2_with fail
  refine (CB.out w3 HB3.out).mono ?_
  rintro e w4 ⟨A4, c4, rfl, g1, g2, hr4, hb4⟩
  have HB4 := Lib.hid (HB3.out.trans (hb4.mono HB3.out.size))
  have HK4 := Lib.hid (HK3'.out.after hb4)
  have HRL := Lib.hid hr4
  have hbs4 := HB4.out.size
  have hg4 := HK4.out.lt
  clear hr4 hb4 g1 g2 q0 q1 ql r0 r1 r2 r3 r4 r5 rl
  go_wp2
  go_loopw [17] (fun i wr => ∃ k : Nat, k ≤ N ∧ i = .int .i64 (k : Int) ∧ Hid (∀ z ∈ b.take k, ¬ (z.1 ≤ a ∧ a < z.2)) ∧ Hid (Below w4.heap.size w4 wr)) (fun i _ => N - (intOf i).toNat)
  case atStart => exact ⟨0, by omega, rfl, fun z hz => by simp at hz, Below.refl _ _⟩
  case round =>
    obtain ⟨k, hk, rfl, HK, HB⟩ := hrel
    have hbr := HB.out.size
    have HKr := Lib.hid (HK4.out.after HB.out)
    have HBw := Lib.hid (HB4.out.trans (HB.out.mono hbs4))
    by_cases hkn : k < N
    · obtain ⟨bb, o, z1, z2, rfl, hbb, hx, cc1, cc2⟩ := Row.at_rng (HRL.out.below HB.out) (k := k) (by rw [HNN.out]; exact hkn)
      have hbl : bb < wr.heap.size := by omega
      have hg4r : g3 < wr.heap.size := by omega
      obtain ⟨p0, p1, pl⟩ := blk2 HKr.out
      have pf0 := HKr.out.free 0
      have pf1 := HKr.out.free 1
      by_cases hz1 : z1 ≤ a
      · have d1 : decide (z1 ≤ a) = true := decide_eq_true hz1
        by_cases hz2 : a < z2
        · have d2 : decide (a < z2) = true := decide_eq_true hz2
          have HF : Hid (rl0 = z1 ∧ rh0 = z2 ∧ ok0 = true) := Lib.hid (by
            have hf : arL b a = some (z1, z2) := by
              obtain ⟨h1, h2⟩ := List.getElem?_eq_some_iff.1 hx.out
              unfold arL
              rw [← List.take_append_drop k b, List.drop_eq_getElem_cons h1, h2, List.find?_append, List.find?_eq_none.2 (fun z hz => by have := HK.out z hz; simp; omega)]
              simp [hz1, hz2]
            have := HR.out
            unfold arV at this
            rw [hf] at this
            simp at this
            exact ⟨this.1.symm, this.2.1.symm, this.2.2⟩)
          obtain ⟨rfl, rfl, rfl⟩ := HF.out
          obtain ⟨w7, hw7, HB7, HK7⟩ : ∃ w7, w7 = ((wr.setCell ⟨g3, 0, none⟩ (.int .i64 rl0)).setCell ⟨g3, 1, none⟩ (.int .i64 rh0)).alloc (.cells #[.int .i64 rl0, .int .i64 rh0] 46) ∧ Hid (Below w.heap.size w w7) ∧ Hid (Blk w7 g3 46 #[.int .i64 rl0, .int .i64 rh0]) := ⟨_, rfl, ((HBw.out.setCell (p := ⟨g3, 0, none⟩) h3w _).setCell (p := ⟨g3, 1, none⟩) h3w _).alloc (by simpa using HBw.out.size) _, Lib.hid (by
            have := ((HKr.out.set_ 0 (.int .i64 rl0)).set_ 1 (.int .i64 rh0)).alloc (.cells #[.int .i64 rl0, .int .i64 rh0] 46)
            simpa using this)⟩
          go_wp2
          rw [← hw7]
          obtain ⟨y0, y1, yl⟩ := blk2 HK7.out
          refine bodyPost_ret (v := .tuple #[.agg #[.int .i64 rl0, .int .i64 rh0], .bool true]) ?_ rfl ⟨rfl, HB7.out⟩
          simp [results, Try.results20, go_sem, y0, y1]
        · have d2 : decide (a < z2) = false := decide_eq_false hz2
          have HK' := Lib.hid (all_snoc (P := fun z : Int × Int => ¬ (z.1 ≤ a ∧ a < z.2)) HK.out hx.out (fun h => hz2 h.2))
          have HBA := Lib.hid (HB.out.alloc hbr (.cells #[.int .i64 z1, .int .i64 z2] 46))
          go_wp2
          go_roundw
          case rel => exact ⟨k + 1, by omega, by go_num, HK', HBA⟩
          case measure => simp [intOf]; omega
      · have d1 : decide (z1 ≤ a) = false := decide_eq_false hz1
        have HK' := Lib.hid (all_snoc (P := fun z : Int × Int => ¬ (z.1 ≤ a ∧ a < z.2)) HK.out hx.out (fun h => hz1 h.1))
        have HBA := Lib.hid (HB.out.alloc hbr (.cells #[.int .i64 z1, .int .i64 z2] 46))
        go_wp2
        go_roundw
        case rel => exact ⟨k + 1, by omega, by go_num, HK', HBA⟩
        case measure => simp [intOf]; omega
    · have HF : Hid (rl0 = 0 ∧ rh0 = 0 ∧ ok0 = false) := Lib.hid (by
        have hf : arL b a = none := by
          unfold arL
          exact List.find?_eq_none.2 (fun z hz => by
            have := all_take HK.out (by rw [HNN.out]; omega) z hz
            simp
            omega)
        have := HR.out
        unfold arV at this
        rw [hf] at this
        simp at this
        exact ⟨this.1.symm, this.2.1.symm, this.2.2⟩)
      obtain ⟨rfl, rfl, rfl⟩ := HF.out
      obtain ⟨p0, p1, pl⟩ := blk2 HKr.out
      have pf0 := HKr.out.free 0
      have pf1 := HKr.out.free 1
      obtain ⟨w7, hw7, HB7, HK7⟩ : ∃ w7, w7 = (wr.setCell ⟨g3, 0, none⟩ (.int .i64 0)).setCell ⟨g3, 1, none⟩ (.int .i64 0) ∧ Hid (Below w.heap.size w w7) ∧ Hid (Blk w7 g3 46 #[.int .i64 0, .int .i64 0]) := ⟨_, rfl, (HBw.out.setCell (p := ⟨g3, 0, none⟩) h3w _).setCell (p := ⟨g3, 1, none⟩) h3w _, Lib.hid (by
        have := (HKr.out.set_ 0 (.int .i64 0)).set_ 1 (.int .i64 0)
        simpa using this)⟩
      go_wp2
      rw [← hw7]
      obtain ⟨y0, y1, yl⟩ := blk2 HK7.out
      refine bodyPost_ret (v := .tuple #[.agg #[.int .i64 0, .int .i64 0], .bool false]) ?_ rfl ⟨rfl, HB7.out⟩
      simp [results, Try.results20, go_sem, y0, y1]
set_option maxRecDepth 100000 in
set_option maxHeartbeats 2000000 in
theorem raround_any (x : PA) (p : PR) (y : TA) (t : BT) (At : Option Addr) (ct : Nat) (text : List Int) (w : World) (h : PrAt w w.heap.size x p) (hsp : p.spans.length ≤ 100000) (hY : TabAt w w.heap.size y t) (hsm : t.cls.length ≤ 1000 ∧ t.act.length ≤ 1000) (hT : Row w w.heap.size At (ints text)) (hll : text.length ≤ 10000) (a : Int) (rl0 rh0 : Int) (ok0 : Bool) (hr : arV (ptsL p t text) a = (rl0, rh0, ok0)) :
    Calls Try.prog 21 #[x.val p, y.val t, .slice At text.length ct, .int .i64 a] w fun e w' => e = .returned (.tuple #[.agg #[.int .i64 rl0, .int .i64 rh0], .bool ok0]) ∧ Below w.heap.size w w' := by
  have CB := Lib.hid (fun (u : World) (hu : Below w.heap.size w u) => rparts_any x p y t At ct text u (h.below hu).lt hsp (hY.below hu).lt hsm (hT.below hu).lt hll)
  have hpl := pts_len p t text
  have HR := Lib.hid hr
  unfold PA.val at CB ⊢
  unfold TA.val at CB ⊢
  unfold RetR at CB
  obtain ⟨w1, hw1, HB1, HK1⟩ := boxV w 41 #[.slice x.n p.names.length x.cn, .slice x.s p.spans.length x.cs]
  obtain ⟨w2, hw2, HB2', HK2'⟩ := boxT w1 28 y t
  have HB2 := Lib.hid (HB1.out.trans (HB2'.out.mono HB1.out.size))
  have HK2 := Lib.hid (HK1.out.after HB2'.out)
  have hs1 : w1.heap.size = w.heap.size + 1 := by rw [hw1]; simp
  obtain ⟨g, hg⟩ : ∃ g, g = w1.heap.size := ⟨_, rfl⟩
  rw [← hg] at HK2'
  have hgw : g = w.heap.size + 1 := by omega
  obtain ⟨q0, q1, ql⟩ := blk2 HK2.out
  obtain ⟨r0, r1, r2, r3, r4, r5, rl⟩ := tab6 HK2'.out
  obtain ⟨w3, hw3, HB3', HK3'⟩ := boxV w2 46 #[.int .i64 0, .int .i64 0]
  have HB3 := Lib.hid (HB2.out.trans (HB3'.out.mono HB2.out.size))
  have HK3 := Lib.hid (HK2.out.after HB3'.out)
  have HT3 := Lib.hid (HK2'.out.after HB3'.out)
  have hs2 : w2.heap.size = w1.heap.size + 1 := by rw [hw2]; simp
  obtain ⟨g3, hg3⟩ : ∃ g, g = w2.heap.size := ⟨_, rfl⟩
  rw [← hg3] at HK3'
  have hgw3 : g3 = w.heap.size + 1 + 1 := by omega
  have h3g : g3 ≠ g := by omega
  have h3w : w.heap.size ≤ g3 := by omega
  clear q0 q1 ql r0 r1 r2 r3 r4 r5 rl
  obtain ⟨q0, q1, ql⟩ := blk2 HK3.out
  obtain ⟨r0, r1, r2, r3, r4, r5, rl⟩ := tab6 HT3.out
  obtain ⟨n, hn⟩ : ∃ n, text.length = n := ⟨_, rfl⟩
  rw [hn] at CB hll hpl ⊢
  obtain ⟨b, hb⟩ : ∃ b, ptsL p t text = b := ⟨_, rfl⟩
  rw [hb] at CB hpl HR
  obtain ⟨N, hN⟩ : ∃ n, b.length = n := ⟨_, rfl⟩
  rw [hN] at CB hpl
  have HNN := Lib.hid hN
  clear h hY hT hn hN hb hr
  go_enter Try.func21, Try.ntmps21
  go_upto_region 1 with fail
  rw [← hw1, ← hw2, ← hw3, ← hgw3, ← hgw]
  clear hw1 hw2 hw3 hs1 hs2 hg hgw hg3 hgw3
  go_wp2_with fail
  refine (CB.out w3 HB3.out).mono ?_
  rintro e w4 ⟨A4, c4, rfl, g1, g2, hr4, hb4⟩
  have HB4 := Lib.hid (HB3.out.trans (hb4.mono HB3.out.size))
  have HK4 := Lib.hid (HK3'.out.after hb4)
  have HRL := Lib.hid hr4
  have hbs4 := HB4.out.size
  have hg4 := HK4.out.lt
  clear hr4 hb4 g1 g2 q0 q1 ql r0 r1 r2 r3 r4 r5 rl
  go_wp2
  go_loopw [17] (fun i wr => ∃ k : Nat, k ≤ N ∧ i = .int .i64 (k : Int) ∧ Hid (∀ z ∈ b.take k, ¬ (z.1 ≤ a ∧ a < z.2)) ∧ Hid (Below w4.heap.size w4 wr)) (fun i _ => N - (intOf i).toNat)
  case atStart => exact ⟨0, by omega, rfl, fun z hz => by simp at hz, Below.refl _ _⟩
  case round =>
    obtain ⟨k, hk, rfl, HK, HB⟩ := hrel
    have hbr := HB.out.size
    have HKr := Lib.hid (HK4.out.after HB.out)
    have HBw := Lib.hid (HB4.out.trans (HB.out.mono hbs4))
    by_cases hkn : k < N
    · obtain ⟨bb, o, z1, z2, rfl, hbb, hx, cc1, cc2⟩ := Row.at_rng (HRL.out.below HB.out) (k := k) (by rw [HNN.out]; exact hkn)
      have hbl : bb < wr.heap.size := by omega
      have hg4r : g3 < wr.heap.size := by omega
      obtain ⟨p0, p1, pl⟩ := blk2 HKr.out
      have pf0 := HKr.out.free 0
      have pf1 := HKr.out.free 1
      by_cases hz1 : z1 ≤ a
      · have d1 : decide (z1 ≤ a) = true := decide_eq_true hz1
        by_cases hz2 : a < z2
        · have d2 : decide (a < z2) = true := decide_eq_true hz2
          have HF : Hid (rl0 = z1 ∧ rh0 = z2 ∧ ok0 = true) := Lib.hid (by
            have hf : arL b a = some (z1, z2) := by
              obtain ⟨h1, h2⟩ := List.getElem?_eq_some_iff.1 hx.out
              unfold arL
              rw [← List.take_append_drop k b, List.drop_eq_getElem_cons h1, h2, List.find?_append, List.find?_eq_none.2 (fun z hz => by have := HK.out z hz; simp; omega)]
              simp [hz1, hz2]
            have := HR.out
            unfold arV at this
            rw [hf] at this
            simp at this
            exact ⟨this.1.symm, this.2.1.symm, this.2.2⟩)
          obtain ⟨rfl, rfl, rfl⟩ := HF.out
          obtain ⟨w7, hw7, HB7, HK7⟩ : ∃ w7, w7 = ((wr.setCell ⟨g3, 0, none⟩ (.int .i64 rl0)).setCell ⟨g3, 1, none⟩ (.int .i64 rh0)).alloc (.cells #[.int .i64 rl0, .int .i64 rh0] 46) ∧ Hid (Below w.heap.size w w7) ∧ Hid (Blk w7 g3 46 #[.int .i64 rl0, .int .i64 rh0]) := ⟨_, rfl, ((HBw.out.setCell (p := ⟨g3, 0, none⟩) h3w _).setCell (p := ⟨g3, 1, none⟩) h3w _).alloc (by simpa using HBw.out.size) _, Lib.hid (by
            have := ((HKr.out.set_ 0 (.int .i64 rl0)).set_ 1 (.int .i64 rh0)).alloc (.cells #[.int .i64 rl0, .int .i64 rh0] 46)
            simpa using this)⟩
          go_wp2
          rw [← hw7]
          obtain ⟨y0, y1, yl⟩ := blk2 HK7.out
          refine bodyPost_ret (v := .tuple #[.agg #[.int .i64 rl0, .int .i64 rh0], .bool true]) ?_ rfl ⟨rfl, HB7.out⟩
          simp [results, Try.results21, go_sem, y0, y1]
        · have d2 : decide (a < z2) = false := decide_eq_false hz2
          have HK' := Lib.hid (all_snoc (P := fun z : Int × Int => ¬ (z.1 ≤ a ∧ a < z.2)) HK.out hx.out (fun h => hz2 h.2))
          have HBA := Lib.hid (HB.out.alloc hbr (.cells #[.int .i64 z1, .int .i64 z2] 46))
          go_wp2
          go_roundw
          case rel => exact ⟨k + 1, by omega, by go_num, HK', HBA⟩
          case measure => simp [intOf]; omega
      · have d1 : decide (z1 ≤ a) = false := decide_eq_false hz1
        have HK' := Lib.hid (all_snoc (P := fun z : Int × Int => ¬ (z.1 ≤ a ∧ a < z.2)) HK.out hx.out (fun h => hz1 h.1))
        have HBA := Lib.hid (HB.out.alloc hbr (.cells #[.int .i64 z1, .int .i64 z2] 46))
        go_wp2
        go_roundw
        case rel => exact ⟨k + 1, by omega, by go_num, HK', HBA⟩
        case measure => simp [intOf]; omega
    · have HF : Hid (rl0 = 0 ∧ rh0 = 0 ∧ ok0 = false) := Lib.hid (by
        have hf : arL b a = none := by
          unfold arL
          exact List.find?_eq_none.2 (fun z hz => by
            have := all_take HK.out (by rw [HNN.out]; omega) z hz
            simp
            omega)
        have := HR.out
        unfold arV at this
        rw [hf] at this
        simp at this
        exact ⟨this.1.symm, this.2.1.symm, this.2.2⟩)
      obtain ⟨rfl, rfl, rfl⟩ := HF.out
      obtain ⟨p0, p1, pl⟩ := blk2 HKr.out
      have pf0 := HKr.out.free 0
      have pf1 := HKr.out.free 1
      obtain ⟨w7, hw7, HB7, HK7⟩ : ∃ w7, w7 = (wr.setCell ⟨g3, 0, none⟩ (.int .i64 0)).setCell ⟨g3, 1, none⟩ (.int .i64 0) ∧ Hid (Below w.heap.size w w7) ∧ Hid (Blk w7 g3 46 #[.int .i64 0, .int .i64 0]) := ⟨_, rfl, (HBw.out.setCell (p := ⟨g3, 0, none⟩) h3w _).setCell (p := ⟨g3, 1, none⟩) h3w _, Lib.hid (by
        have := (HKr.out.set_ 0 (.int .i64 0)).set_ 1 (.int .i64 0)
        simpa using this)⟩
      go_wp2
      rw [← hw7]
      obtain ⟨y0, y1, yl⟩ := blk2 HK7.out
      refine bodyPost_ret (v := .tuple #[.agg #[.int .i64 0, .int .i64 0], .bool false]) ?_ rfl ⟨rfl, HB7.out⟩
      simp [results, Try.results21, go_sem, y0, y1]
end Go.Proofs.Ytkoojoogddndnaa
