/-
  property.Valid; ref10.Valid.
-/
import Derived.Test.YtkoojoogddndnaaBp2
namespace Go.Proofs.Ytkoojoogddndnaa
open Go.RowKit Go.UtYtkoojoogddndnaa
theorem blk3 {w : World} {g T : Nat} {a b c : Value} (h : Blk w g T #[a, b, c]) : w.cell? ⟨g, 0, none⟩ = some a ∧ w.cell? ⟨g, 1, none⟩ = some b ∧ w.cell? ⟨g, 2, none⟩ = some c ∧ g < w.heap.size := ⟨h.cell 0, h.cell 1, h.cell 2, h.lt⟩
set_option maxRecDepth 100000 in
set_option maxHeartbeats 4000000 in
theorem validP_raw (xn xs : Option Addr) (xcn xcs : Nat) (p : PR) (w : World) (h : PrAt w w.heap.size ⟨xn, xs, xcn, xcs⟩ p) (hsp : p.spans.length ≤ 100000) (v : Bool) (hv : v = true ↔ validP p) :
    Calls Try.prog 97 #[.agg #[.slice xn p.names.length xcn, .slice xs p.spans.length xcs]] w fun e w' => e = .returned (.bool v) ∧ Below w.heap.size w w' := by
  have HP := Lib.hid h
  have HV := Lib.hid hv
  have CN := fun (u : World) (hu : Below w.heap.size w u) (v' : Bool) (hv' : v' = true ↔ namesOk p.names) => index_any xn xcn p.names u (h.1.1.below hu).lt h.1.2.1 h.1.2.2 v' hv'
  obtain ⟨n, hn⟩ : ∃ n, p.names.length = n := ⟨_, rfl⟩
  obtain ⟨m, hm⟩ : ∃ n, p.spans.length = n := ⟨_, rfl⟩
  have HN := Lib.hid hn
  have HM := Lib.hid hm
  rw [hn] at CN
  replace CN := Lib.hid CN
  rw [hm] at hsp
  rw [hn, hm]
  have hc1 := h.1.2
  have hc2 := h.2.2
  rw [hn] at hc1
  rw [hm] at hc2
  unfold maxLen at hc1 hc2
  obtain ⟨w1, hw1, HB1, HK1⟩ := boxV w 41 #[.slice xn n xcn, .slice xs m xcs]
  obtain ⟨q0, q1, ql⟩ := blk2 HK1.out
  clear h hv hn hm
  by_cases gn : namesOk p.names
  case neg =>
    have HF : Hid (v = false) := bool_neg HV.out (fun h => gn h.1)
    go_enter Try.func97, Try.ntmps97
    go_upto_region 1 with fail
    rw [← hw1]
    clear hw1
    go_wp2_with fail
    refine (CN.out w1 HB1.out false ⟨fun h => (by cases h), fun h => absurd h gn⟩).mono ?_
    rintro e w2 ⟨mv, rfl, hb2⟩
    have HB2 := Lib.hid (HB1.out.trans (hb2.mono HB1.out.size))
    clear hb2
    go_wp2
    go_ret
    exact ⟨ret_bool HF.out.symm, HB2.out⟩
  case pos =>
    have HGN := Lib.hid gn
    have hn1 := gn.1
    rw [HN.out] at hn1
    go_enter Try.func97, Try.ntmps97
    go_upto_region 1 with fail
    rw [← hw1]
    clear hw1
    go_wp2_with fail
    refine (CN.out w1 HB1.out true ⟨fun _ => gn, fun _ => rfl⟩).mono ?_
    rintro e w2 ⟨mv, rfl, hb2⟩
    have HB2 := Lib.hid (HB1.out.trans (hb2.mono HB1.out.size))
    have HK2 := Lib.hid (HK1.out.after hb2)
    clear hb2 q0 q1 ql gn
    obtain ⟨q0, q1, ql⟩ := blk2 HK2.out
    go_wp2
    go_loopw [19] (fun i wr => ∃ k : Nat, k ≤ m ∧ i = .int .i64 (k : Int) ∧ Hid (spansOk n (p.spans.take k)) ∧ Hid (Blk wr w.heap.size 41 #[.slice xn n xcn, .slice xs m xcs]) ∧ Hid (Below w.heap.size w wr)) (fun i _ => m - (intOf i).toNat)
    case atStart => exact ⟨0, by omega, rfl, ⟨fun s hs => by simp at hs, fun i p s hp _ => by simp at hp⟩, HK2, HB2⟩
    case round =>
      obtain ⟨k, hk, rfl, HS, HK, HB⟩ := hrel
      obtain ⟨q0, q1, ql⟩ := blk2 HK.out
      have hbs := HB.out.size
      by_cases hkm : k < m
      · obtain ⟨b, o, lo, hi, va, rfl, hb, hx, cc0, cc1, cc2⟩ := (HP.out.2.1.below HB.out).at_spn (k := k) (by rw [HM.out]; exact hkm)
        have hbw : b < wr.heap.size := by omega
        obtain ⟨w3, hw3, HB3, HK3⟩ := boxV wr 66 #[.int .i64 lo, .int .i64 hi, .int .i64 va]
        have HBw3 := Lib.hid (HB.out.trans (HB3.out.mono hbs))
        have HKP3 := Lib.hid (HK.out.after HB3.out)
        go_upto_region 7 with fail
        rw [← hw3]
        clear hw3 q0 q1 ql
        obtain ⟨q0, q1, ql⟩ := blk2 HKP3.out
        obtain ⟨z0, z1, z2, zl⟩ := blk3 HK3.out
        have hbs3 := HBw3.out.size
        by_cases gi : 0 ≤ lo ∧ lo ≤ hi ∧ hi ≤ 1114111
        case neg =>
          have HF : Hid (v = false) := bool_neg HV.out (fun h => gi (by have := h.2.1 (lo, hi, va) (List.mem_of_getElem? hx.out); exact ⟨this.1, this.2.1, this.2.2.1⟩))
          go_wp2_with fail
          refine (inside_any lo hi va w3 false ⟨fun h => (by cases h), fun h => absurd h gi⟩).mono ?_
          rintro e w4 ⟨rfl, hb4⟩
          have HB4 := Lib.hid (HBw3.out.trans (hb4.mono hbs3))
          clear hb4
          go_wp2
          go_ret
          exact ⟨ret_bool HF.out.symm, HB4.out⟩
        case pos =>
          go_wp2_with fail
          refine (inside_any lo hi va w3 true ⟨fun _ => gi, fun _ => rfl⟩).mono ?_
          rintro e w4 ⟨rfl, hb4⟩
          have HB4 := Lib.hid (HBw3.out.trans (hb4.mono hbs3))
          have HKP4 := Lib.hid (HKP3.out.after hb4)
          have HKS4 := Lib.hid (HK3.out.after hb4)
          have hbs4 := HB4.out.size
          clear hb4 q0 q1 ql z0 z1 z2 zl
          obtain ⟨q0, q1, ql⟩ := blk2 HKP4.out
          obtain ⟨z0, z1, z2, zl⟩ := blk3 HKS4.out
          by_cases gv : va < 1
          · have HF : Hid (v = false) := bool_neg HV.out (fun h => by have := (h.2.1 (lo, hi, va) (List.mem_of_getElem? hx.out)).2.2.2.1; simp at this; omega)
            go_wp2
            go_ret
            exact ⟨ret_bool HF.out.symm, HB4.out⟩
          have dv : decide (va < 1) = false := decide_eq_false gv
          by_cases gw : (n : Int) ≤ va
          · have HF : Hid (v = false) := bool_neg HV.out (fun h => by have := (h.2.1 (lo, hi, va) (List.mem_of_getElem? hx.out)).2.2.2.2; rw [HN.out] at this; simp at this; omega)
            go_wp2
            go_ret
            exact ⟨ret_bool HF.out.symm, HB4.out⟩
          have dw : decide ((n : Int) ≤ va) = false := decide_eq_false gw
          have HSO : Hid (spanOk n (lo, hi, va)) := ⟨gi.1, gi.2.1, gi.2.2, by simp; omega, by simp; omega⟩
          cases k with
          | zero =>
            have HS' : Hid (spansOk n (p.spans.take (0 + 1))) := spans_snoc HS.out hx.out HSO.out (fun _ h => by omega)
            go_wp2
            go_roundw
            case rel => exact ⟨1, by omega, by go_num, HS', HKP4, HB4⟩
            case measure => simp [intOf]; omega
          | succ j =>
            obtain ⟨b', o', lo', hi', va', hA', hb', hx', dd0, dd1, dd2⟩ := (HP.out.2.1.below HB4.out).at_spn (k := j) (by rw [HM.out]; omega)
            injection hA' with hA2
            injection hA2 with e1 e2
            subst e1 e2
            have hbw4 : b < w4.heap.size := by omega
            have k1 : (((j + 1 : Nat) : Int) == 0) = false := by simp; omega
            have k2 : IntKind.i64.wrap (((j + 1 : Nat) : Int) - 1) = (j : Int) := by rw [show ((j + 1 : Nat) : Int) - 1 = (j : Int) by omega]; exact IntWalk.i64_in _ (by omega)
            have k3 : (j : Int) < (m : Int) := by omega
            have hpr := (HS.out.1 (lo', hi', va') (by
              refine List.mem_of_getElem? (i := j) ?_
              rw [List.getElem?_take, if_pos (by omega)]
              exact hx'.out))
            have hhi : 0 ≤ hi' ∧ hi' ≤ 1114111 := ⟨by have := hpr.1; have := hpr.2.1; simp at *; omega, hpr.2.2.1⟩
            have k4 : IntKind.i64.wrap (hi' + 1) = hi' + 1 := IntWalk.i64_in _ (by omega)
            obtain ⟨w5, hw5, HB5, HK5⟩ := boxV w4 66 #[.int .i64 lo', .int .i64 hi', .int .i64 va']
            have HBw5 := Lib.hid (HB4.out.trans (HB5.out.mono hbs4))
            have HKP5 := Lib.hid (HKP4.out.after HB5.out)
            have HKS5 := Lib.hid (HKS4.out.after HB5.out)
            clear hpr
            go_upto_region 11 with fail
            rw [← hw5]
            clear hw5 q0 q1 ql z0 z1 z2 zl
            obtain ⟨z0, z1, z2, zl⟩ := blk3 HKS5.out
            obtain ⟨y0, y1, y2, yl⟩ := blk3 HK5.out
            by_cases gj : joinOk (lo', hi', va') (lo, hi, va)
            case neg =>
              have HF : Hid (v = false) := bool_neg HV.out (fun h => gj (h.2.2 j _ _ hx'.out hx.out))
              by_cases g1 : lo ≤ hi'
              · have e1 : decide (lo ≤ hi') = true := decide_eq_true g1
                go_wp2
                go_ret
                exact ⟨ret_bool HF.out.symm, HBw5.out⟩
              · have e1 : decide (lo ≤ hi') = false := decide_eq_false g1
                have g2 : lo = hi' + 1 ∧ va = va' := by
                  refine Classical.byContradiction fun hc => gj ⟨by simp; omega, ?_⟩
                  simpa using hc
                obtain ⟨h1, h2⟩ := g2
                subst h2
                have e2 : (lo == hi' + 1) = true := by simp [h1]
                clear h1
                go_wp2
                go_ret
                exact ⟨ret_bool HF.out.symm, HBw5.out⟩
            case pos =>
              have HJ := Lib.hid gj
              have HS' : Hid (spansOk n (p.spans.take (j + 1 + 1))) := spans_snoc HS.out hx.out HSO.out (fun q _ hq => by
                rw [Nat.add_sub_cancel, hx'.out] at hq
                injection hq with hq
                subst hq
                exact HJ.out)
              have e1 : decide (lo ≤ hi') = false := decide_eq_false (by have := gj.1; simp at this; omega)
              by_cases g2 : lo = hi' + 1
              · have e2 : (lo == hi' + 1) = true := by simp [g2]
                have e3 : (va == va') = false := by
                  have := gj.2
                  simp at this ⊢
                  exact this g2
                clear gj g2
                go_wp2
                go_roundw
                case rel => exact ⟨j + 1 + 1, by omega, by go_num, HS', HKP5, HBw5⟩
                case measure => simp [intOf]; omega
              · have e2 : (lo == hi' + 1) = false := by simp [g2]
                clear gj g2
                go_wp2
                go_roundw
                case rel => exact ⟨j + 1 + 1, by omega, by go_num, HS', HKP5, HBw5⟩
                case measure => simp [intOf]; omega
      · have HF : Hid (v = true) := HV.out.2 ⟨HGN.out, by have := HS.out; rw [List.take_of_length_le (by rw [HM.out]; omega)] at this; rw [HN.out]; exact this⟩
        go_wp2
        go_ret
        exact ⟨ret_bool HF.out.symm, HB.out⟩
theorem validP_any (x : PA) (p : PR) (w : World) (h : PrAt w w.heap.size x p) (hsp : p.spans.length ≤ 100000) (v : Bool) (hv : v = true ↔ validP p) :
    Calls Try.prog 97 #[x.val p] w fun e w' => e = .returned (.bool v) ∧ Below w.heap.size w w' := validP_raw x.n x.s x.cn x.cs p w h hsp v hv
end Go.Proofs.Ytkoojoogddndnaa
