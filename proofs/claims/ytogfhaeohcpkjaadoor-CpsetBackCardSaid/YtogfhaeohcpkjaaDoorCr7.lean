/-
  ref02.Parse: walk.
-/
import Derived.Test.YtogfhaeohcpkjaaDoorProg
import Derived.Test.YtogfhaeohcpkjaaDoorCr6
import Derived.Test.YtogfhaeohcpkjaaDoorCs13
import Derived.WalkKit
import Derived.KernelRfl
import Derived.Outline
import Derived.IntWalk
namespace Go.Proofs.YtogfhaeohcpkjaaDoor
open Go.RowKit Go.UtYtogfhaeohcpkjaaDoor
theorem rOne_ok {wd : List UInt8} {a z : List UInt8} {r1 r2 : Int} (ha : (chop 46 wd).headD [] = a) (hz : (chop 46 wd).getLastD [] = z) (h1 : parse a = (r1, 0)) (h2 : parse z = (r2, 0)) : rOne wd = some (r1, r2) := by
  unfold rOne
  simp only [ha, hz, h1, h2, and_self, if_true]
theorem rOne_no {wd : List UInt8} {a z : List UInt8} (ha : (chop 46 wd).headD [] = a) (hz : (chop 46 wd).getLastD [] = z) (h : parse a = (0, 3) ∨ parse z = (0, 3)) : rOne wd = none := by
  unfold rOne
  rw [if_neg]
  rw [ha, hz]
  rintro ⟨h1, h2⟩
  rcases h with h | h
  · rw [h] at h1; cases h1
  · rw [h] at h2; cases h2
/-- the first and the last piece -/
theorem ends_of {ps : List (List UInt8)} (h : ps ≠ []) : ∃ n, ps.length = n + 1 ∧ ps[0]? = some (ps.headD []) ∧ ps[n]? = some (ps.getLastD []) := by
  cases ps with
  | nil => exact absurd rfl h
  | cons a l =>
    refine ⟨l.length, rfl, rfl, ?_⟩
    have h1 : (a :: l).getLast? = (a :: l)[l.length]? := by rw [List.getLast?_eq_getElem?]; simp
    rw [← h1, List.getLastD_eq_getLast?]
    cases hh : (a :: l).getLast? with
    | none => simp at hh
    | some x => rfl
theorem strl_get {ws : List (List UInt8)} {k : Nat} {l : List UInt8} (h : ws[k]? = some l) : (strl ws)[k]? = some (.string ⟨l.toArray⟩) := by
  simp [strl, h, bya]
theorem row_strl {w : World} {B : Nat} {A : Option Addr} {ws : List (List UInt8)} (h : Row w B A (strl ws)) {k : Nat} {l : List UInt8} (hk : ws[k]? = some l) : ∃ b o, A = some ⟨b, o, none⟩ ∧ b < B ∧ w.cell? ⟨b, o + k, none⟩ = some (.string ⟨l.toArray⟩) := by
  obtain ⟨b, o, e, hb, hc⟩ := h (fun e => by
    have e2 : (strl ws).length = 0 := by rw [e]; rfl
    rw [strl_len] at e2
    have := (List.getElem?_eq_some_iff.1 hk).1
    omega)
  exact ⟨b, o, e, hb, hc k _ (strl_get hk)⟩
theorem row_other {w : World} {B g : Nat} {A : Option Addr} {ws : List (List UInt8)} {t : TypeId} {v u : Value} (h : Row w B A (strl ws)) (hb : Blk w g t #[v]) (hv : ∀ s : ByteArray, v ≠ .string s) : Row (w.setCell ⟨g, 0, none⟩ u) B A (strl ws) := by
  intro hne
  obtain ⟨b, o, hA, hlt, hc⟩ := h hne
  refine ⟨b, o, hA, hlt, fun k x hk => (World.cell?_setCell_other w ⟨g, 0, none⟩ ⟨b, o + k, none⟩ u ?_).trans (hc k x hk)⟩
  intro e
  injection e with e1 e2
  have h1 := hc k x hk
  rw [← e1, ← e2, hb.cell] at h1
  simp at h1
  subst h1
  unfold strl at hk
  rw [List.getElem?_map] at hk
  cases hw : ws[k]? with
  | none => rw [hw] at hk; simp at hk
  | some l => rw [hw] at hk; simp at hk; exact hv _ hk.symm
set_option maxRecDepth 100000 in
set_option maxHeartbeats 2000000 in
theorem rParse_any (s : List UInt8) (w : World) (hl : s.length ≤ 10000) :
    Calls Tryd.prog 25 #[.string ⟨s.toArray⟩] w (RetParse w s) := by
  obtain ⟨i0, hi0, hz0, hz1, hz2⟩ := info_parts rg_info
  obtain ⟨ws, hws⟩ : ∃ ws, chop 32 s = ws := ⟨_, rfl⟩
  have hwl : ws.length ≤ 10001 := by rw [← hws]; have := chop_count 32 s; omega
  have HW := Lib.hid hws
  have HWL := Lib.hid (chop_le 32 s)
  clear hws
  obtain ⟨w1, h1, HB1, HX1, HY1⟩ : ∃ w1, w1 = (w.alloc (.cells #[.slice none 0 0] 24)).alloc (.cells #[.slice none 0 0] 24) ∧ Hid (Below w.heap.size w w1) ∧ Hid (Blk w1 w.heap.size 24 #[.slice none 0 0]) ∧ Hid (Blk w1 (w.heap.size + 1) 24 #[.slice none 0 0]) := by
    refine ⟨_, rfl, ((Below.refl _ _).alloc (Nat.le_refl _) _).alloc (by simp) _, (Blk.new w _ _).alloc _, ?_⟩
    have := Blk.new (w.alloc (.cells #[.slice none 0 0] 24)) 24 #[.slice none 0 0]
    show Blk _ _ _ _
    simpa using this
  go_enter Tryd.func25, Tryd.ntmps25
  go_wp2_with fail
  rw [← h1]
  clear h1
  refine (rCut_any s 32 32 rfl w1 (by omega) ws HW.out).mono ?_
  rintro e w2 ⟨Aw, cw, rfl, hrw, hb2⟩
  have HRW := Lib.hid hrw
  have HB2 := Lib.hid (HB1.out.trans (hb2.mono HB1.out.size))
  have HX2 := Lib.hid (HX1.out.after hb2)
  have HY2 := Lib.hid (HY1.out.after hb2)
  have hsz2 := HY2.out.lt
  clear hrw hb2 HX1 HY1 HB1
  go_wp2_with fail
  go_loopw [6] (fun i wr => ∃ (k n0 c0 : Nat) (A0 : Option Addr) (ps : List Rg), k ≤ ws.length ∧ i = .int .i64 (k : Int) ∧ n0 ≤ k ∧ Hid ((ws.take k).map rOne = ps.map some) ∧ Hid (wr.ownsRow w2.heap.size 37 2 (.slice A0 n0 c0) n0 (rgs ps)) ∧ Hid (Below w.heap.size w wr) ∧ Hid (Blk wr w.heap.size 24 #[.slice none 0 0]) ∧ Hid (Blk wr (w.heap.size + 1) 24 #[.slice A0 n0 c0]) ∧ Hid (Row wr w2.heap.size Aw (strl ws)) ∧ w2.heap.size ≤ wr.heap.size) (fun i _ => ws.length - (intOf i).toNat)
  case atStart => exact ⟨0, 0, 0, none, [], by omega, rfl, by omega, rfl, own_nil _, HB2, HX2, HY2, HRW, Nat.le_refl _⟩
  case round =>
    obtain ⟨k, n0, c0, A0, rps, hk, rfl, hn0, HPSS, HO, HB, HX, HY, HRR, hszr⟩ := hrel
    have yx := HX.out.cell 0
    have zx := HX.out.free 0
    have yy := HY.out.cell 0
    have zy := HY.out.free 0
    have hyl := HY.out.lt
    simp at yx yy
    by_cases h1 : k < ws.length ∧ s ≠ []
    · obtain ⟨h1, hs⟩ := h1
      have HNE := Lib.hid hs
      have hsb : (s == []) = false := by simpa using hs
      have hsi : (!s.isEmpty) = true := by simpa using hs
      have hsi2 : s.isEmpty = false := by simpa using hs
      clear hs
      obtain ⟨wd, hwd⟩ : ∃ wd, Hid (ws[k]? = some wd) := ⟨ws[k], List.getElem?_eq_getElem h1⟩
      have hwdl : wd.length ≤ 10000 := by have := HWL.out wd (HW.out ▸ List.mem_of_getElem? hwd.out); omega
      obtain ⟨b, o, rfl, hb, hcell⟩ := row_strl HRR.out hwd.out
      obtain ⟨ps, hps⟩ : ∃ ps, chop 46 wd = ps := ⟨_, rfl⟩
      have hpc : ps.length ≤ 10001 := by rw [← hps]; have := chop_count 46 wd; omega
      obtain ⟨n, hpl, he0, hen⟩ := ends_of (hps ▸ chop_ne 46 wd)
      obtain ⟨a, ha⟩ : ∃ a, ps.headD [] = a := ⟨_, rfl⟩
      obtain ⟨z, hz⟩ : ∃ z, ps.getLastD [] = z := ⟨_, rfl⟩
      rw [ha] at he0
      rw [hz] at hen
      have hal : a.length ≤ 10000 := by have := chop_le 46 wd a (hps ▸ List.mem_of_getElem? he0); omega
      have hzl : z.length ≤ 10000 := by have := chop_le 46 wd z (hps ▸ List.mem_of_getElem? hen); omega
      have HA : Hid ((chop 46 wd).headD [] = a) := by show _ = _; rw [hps]; exact ha
      have HZ : Hid ((chop 46 wd).getLastD [] = z) := by show _ = _; rw [hps]; exact hz
      have HPS := Lib.hid hps
      have HE0 := Lib.hid he0
      have HEN := Lib.hid hen
      have HPL := Lib.hid hpl
      have hnl : n ≤ 10000 := by omega
      have hnl2 : n < ps.length := by omega
      clear hps ha hz he0 hen hpl
      rcases parse_two a with ⟨r1, q1⟩ | q1
      · rcases parse_two z with ⟨r2, q2⟩ | q2
        · have HR1 := Lib.hid q1
          have HR2 := Lib.hid q2
          have HPS' := Lib.hid (map_take_snoc hwd.out HPSS.out (rOne_ok HA.out HZ.out q1 q2))
          clear q1 q2
          go_wp2_with fail
          refine (rCut_any wd 46 46 rfl _ (by omega) ps HPS.out).mono ?_
          rintro e v1 ⟨A1, k1, rfl, hr1, hb1⟩
          have HQ0 := Lib.hid hb1
          obtain ⟨b1, o1, rfl, hb1l, hcell0⟩ := row_strl hr1 HE0.out
          obtain ⟨b1', o1', e', -, hcelln⟩ := row_strl hr1 HEN.out
          injection e' with e'
          injection e' with e1 e2
          subst e1 e2
          have HCN := Lib.hid hcelln
          simp only [Nat.add_zero] at hcell0
          have hpl' : 0 < ps.length := by omega
          clear hr1 hb1 hcelln
          go_wp2_with fail
          refine (parse2_any a _ (by simp only [maxLen]; omega) _ _ HR1.out).mono ?_
          rintro e p1 ⟨rfl, hq⟩
          have HQC := Lib.hid hq
          have HQ1 := Lib.hid (HQ0.out.trans (hq.mono HQ0.out.size))
          clear hq
          have hcn1 := (HQC.out.cell (p := ⟨b1, o1 + n, none⟩) hb1l).trans HCN.out
          have kn1 : IntKind.i64.wrap ((ps.length : Int) - 1) = (n : Int) := by rw [HPL.out]; simp; exact IntWalk.i64_in _ (by omega)
          go_wp2_with fail
          refine (parse2_any z _ (by simp only [maxLen]; omega) _ _ HR2.out).mono ?_
          rintro e p2 ⟨rfl, hq⟩
          have HQ2 := Lib.hid (HQ1.out.trans (hq.mono HQ1.out.size))
          clear hq kn1 hcn1
          have HO2 := Lib.hid (ow_below HO.out HQ2.out)
          have HX2' := Lib.hid (HX.out.after HQ2.out)
          have HY2' := Lib.hid (HY.out.after HQ2.out)
          have HB2' := Lib.hid (HB.out.trans (HQ2.out.mono HB.out.size))
          have HRR2 := Lib.hid (HRR.out.below (HQ2.out.mono hszr))
          have hsq := HQ2.out.size
          have y3 := HY2'.out.cell 0
          have z3 := HY2'.out.free 0
          have l3 := HY2'.out.lt
          simp at y3
          go_wp2_with (first
            | (at_builtin
               refine wpList_append_row _ rfl (.tmp 54) (.tmp 58) _ rfl w2.heap.size 37 i0 _ 2 16 Tryd.underlying22 hi0 hz0 hz1 hz2 rfl (by omega) (.slice A0 n0 c0) n0 (rgs rps) rfl (ow_alloc HO2.out _) _ _ 1 1 [Value.int .i64 r1, Value.int .i64 r2] rfl rfl (row_lit p2 _ _) (by simp [Value.oneCell']) (by simp only [maxLen]; omega) (by omega) (by simp; omega) ?_
               intro q4 w4 o4 g4 t4
               obtain ⟨A4, c4, rfl⟩ := ow_slice (m := n0 + 1) o4 rfl
               have hbg := own_base HO2.out
               have hbm : Below w2.heap.size p2 w4 := ((Below.refl _ p2).alloc (by omega) _).grown g4 (by simp; omega) (fun g hg => hbg g hg)
               have HB4 := Lib.hid (HB2'.out.trans (hbm.mono HB2.out.size))
               have HX4 := Lib.hid (HX2'.out.below hbm (by omega))
               have HY4 := Lib.hid (HY2'.out.below hbm (by omega))
               have HRR4 := Lib.hid (HRR2.out.below hbm)
               have hs4 := hbm.size
               have HO4 := Lib.hid (ow_set (p := ⟨w.heap.size + 1, 0, none⟩) (u := .slice A4 (n0 + 1) c4) o4 (by show w.heap.size + 1 < _; omega))
               have y4 := HY4.out.cell 0
               have z4 := HY4.out.free 0
               simp at y4
               clear o4 g4 t4 hbm hbg))
          have HY5 : Hid (Blk (w4.setCell ⟨w.heap.size + 1, 0, none⟩ (.slice A4 (n0 + 1) c4)) (w.heap.size + 1) 24 #[.slice A4 (n0 + 1) c4]) := by
            have := HY4.out.set_ 0 (.slice A4 (n0 + 1) c4)
            show Blk _ _ _ _
            simpa using this
          have HX5 := Lib.hid (HX4.out.far (p := ⟨w.heap.size + 1, 0, none⟩) (by simp) (.slice A4 (n0 + 1) c4))
          have HRR5 : Hid (Row (w4.setCell ⟨w.heap.size + 1, 0, none⟩ (.slice A4 (n0 + 1) c4)) w2.heap.size (some ⟨b, o, none⟩) (strl ws)) := row_other HRR4.out HY4.out (fun s h => by cases h)
          go_roundw
          case rel => exact ⟨k + 1, n0 + 1, c4, A4, _, by omega, by go_num, by omega, HPS', by rw [rgs_append]; exact HO4, HB4.out.setCell (p := ⟨w.heap.size + 1, 0, none⟩) (by simp) _, HX5, HY5, HRR5, by simp; omega⟩
          case measure => simp [intOf]; omega
        · have HR1 := Lib.hid q1
          have HR2 := Lib.hid q2
          have HBAD := Lib.hid (parse_bad (fun r => rOne_word) HNE.out (HW.out ▸ List.mem_of_getElem? hwd.out) (rOne_no HA.out HZ.out (.inr q2)))
          clear q1 q2
          go_wp2_with fail
          refine (rCut_any wd 46 46 rfl _ (by omega) ps HPS.out).mono ?_
          rintro e v1 ⟨A1, k1, rfl, hr1, hb1⟩
          have HQ0 := Lib.hid hb1
          obtain ⟨b1, o1, rfl, hb1l, hcell0⟩ := row_strl hr1 HE0.out
          obtain ⟨b1', o1', e', -, hcelln⟩ := row_strl hr1 HEN.out
          injection e' with e'
          injection e' with e1 e2
          subst e1 e2
          have HCN := Lib.hid hcelln
          simp only [Nat.add_zero] at hcell0
          have hpl' : 0 < ps.length := by omega
          clear hr1 hb1 hcelln
          go_wp2_with fail
          refine (parse2_any a _ (by simp only [maxLen]; omega) _ _ HR1.out).mono ?_
          rintro e p1 ⟨rfl, hq⟩
          have HQC := Lib.hid hq
          have HQ1 := Lib.hid (HQ0.out.trans (hq.mono HQ0.out.size))
          clear hq
          have hcn1 := (HQC.out.cell (p := ⟨b1, o1 + n, none⟩) hb1l).trans HCN.out
          have kn1 : IntKind.i64.wrap ((ps.length : Int) - 1) = (n : Int) := by rw [HPL.out]; simp; exact IntWalk.i64_in _ (by omega)
          go_wp2_with fail
          refine (parse2_any z _ (by simp only [maxLen]; omega) _ _ HR2.out).mono ?_
          rintro e p2 ⟨rfl, hq⟩
          have HQ2 := Lib.hid (HQ1.out.trans (hq.mono HQ1.out.size))
          clear hq kn1 hcn1
          have HX3 := Lib.hid (HX.out.after HQ2.out)
          have HB3 := Lib.hid (HB.out.trans (HQ2.out.mono HB.out.size))
          have y3 := HX3.out.cell 0
          have z3 := HX3.out.free 0
          simp at y3
          go_wp2
          refine bodyPost_ret (v := .tuple #[.agg #[.slice none 0 0], .int .i64 3]) ?_ rfl ?_
          · have q0 := (HX3.out.set_ 0 (.slice none 0 0)).cell 0
            simp at q0
            simp [results, Tryd.results25, go_sem, q0]
          · exact ⟨none, 0, [], 3, rfl, HBAD.out, Row.nil, HB3.out.setCell (p := ⟨w.heap.size, 0, none⟩) (Nat.le_refl _) _⟩
      · have HR1 := Lib.hid q1
        obtain ⟨r2, f2, q2⟩ : ∃ r2 f2, parse z = (r2, f2) := ⟨_, _, rfl⟩
        have HR2 := Lib.hid q2
        have HBAD := Lib.hid (parse_bad (fun r => rOne_word) HNE.out (HW.out ▸ List.mem_of_getElem? hwd.out) (rOne_no HA.out HZ.out (.inl q1)))
        clear q1 q2
        go_wp2_with fail
        refine (rCut_any wd 46 46 rfl _ (by omega) ps HPS.out).mono ?_
        rintro e v1 ⟨A1, k1, rfl, hr1, hb1⟩
        have HQ0 := Lib.hid hb1
        obtain ⟨b1, o1, rfl, hb1l, hcell0⟩ := row_strl hr1 HE0.out
        obtain ⟨b1', o1', e', -, hcelln⟩ := row_strl hr1 HEN.out
        injection e' with e'
        injection e' with e1 e2
        subst e1 e2
        have HCN := Lib.hid hcelln
        simp only [Nat.add_zero] at hcell0
        have hpl' : 0 < ps.length := by omega
        clear hr1 hb1 hcelln
        go_wp2_with fail
        refine (parse2_any a _ (by simp only [maxLen]; omega) _ _ HR1.out).mono ?_
        rintro e p1 ⟨rfl, hq⟩
        have HQC := Lib.hid hq
        have HQ1 := Lib.hid (HQ0.out.trans (hq.mono HQ0.out.size))
        clear hq
        have hcn1 := (HQC.out.cell (p := ⟨b1, o1 + n, none⟩) hb1l).trans HCN.out
        have kn1 : IntKind.i64.wrap ((ps.length : Int) - 1) = (n : Int) := by rw [HPL.out]; simp; exact IntWalk.i64_in _ (by omega)
        go_wp2_with fail
        refine (parse2_any z _ (by simp only [maxLen]; omega) _ _ HR2.out).mono ?_
        rintro e p2 ⟨rfl, hq⟩
        have HQ2 := Lib.hid (HQ1.out.trans (hq.mono HQ1.out.size))
        clear hq kn1 hcn1
        have HX3 := Lib.hid (HX.out.after HQ2.out)
        have HB3 := Lib.hid (HB.out.trans (HQ2.out.mono HB.out.size))
        have y3 := HX3.out.cell 0
        have z3 := HX3.out.free 0
        simp at y3
        go_wp2
        refine bodyPost_ret (v := .tuple #[.agg #[.slice none 0 0], .int .i64 3]) ?_ rfl ?_
        · have q0 := (HX3.out.set_ 0 (.slice none 0 0)).cell 0
          simp at q0
          simp [results, Tryd.results25, go_sem, q0]
        · exact ⟨none, 0, [], 3, rfl, HBAD.out, Row.nil, HB3.out.setCell (p := ⟨w.heap.size, 0, none⟩) (Nat.le_refl _) _⟩
    · have hnl : n0 = rps.length := by have := HO.out.1; rw [rgs_len] at this; omega
      subst hnl
      obtain ⟨hrow, -, -⟩ := ow_row HO.out
      have HRP := Lib.hid hrow
      clear hrow
      by_cases h2 : k < ws.length
      · obtain rfl : s = [] := Classical.byContradiction fun h => h1 ⟨h2, h⟩
        have HFIN : Hid ((Cnn rps → textR rps = [] → ParseOut [] rps 0) ∧ (¬ (Cnn rps ∧ textR rps = []) → ParseOut [] [] 3)) := by
          have e : rps = [] := by
            have hw : ws = [[]] := HW.out.symm
            have hk0 : k = 0 := by rw [hw] at h2; simp at h2; exact h2
            have := HPSS.out
            rw [hk0] at this
            simpa using this.symm
          subst e
          exact ⟨fun _ _ => parse_empty, fun h => absurd ⟨trivial, rfl⟩ h⟩
        clear h1
        by_cases hcn : Cnn rps
        · have HCN := Lib.hid hcn
          obtain ⟨t, ht⟩ : ∃ t, textR rps = t := ⟨_, rfl⟩
          have HT : Hid (∀ r, Cnn r → (∀ x, hasP r x ↔ hasP rps x) → textR r = t) := fun r h1 h2 => by rw [can_eq h1 hcn h2, ht]
          rw [ht] at HFIN
          clear hcn ht
          go_wp2_with fail
          refine (rValid_any A0 c0 rps wr HRP.out (by omega) true ⟨fun _ => HCN.out, fun _ => rfl⟩).mono ?_
          rintro e w5 ⟨rfl, hb5⟩
          have HB5 := Lib.hid (HB.out.trans (hb5.mono HB.out.size))
          have HX5 := Lib.hid (HX.out.after hb5)
          have HY5 := Lib.hid (HY.out.after hb5)
          have HR5 := Lib.hid (HRP.out.below hb5).lt
          have y5 := HY5.out.cell 0
          simp at y5
          clear hb5
          go_wp2_with fail
          refine (rText_any A0 c0 rps w5 HR5.out (by omega) t HT.out).mono ?_
          rintro e w6 ⟨rfl, hb6⟩
          have HB6 := Lib.hid (HB5.out.trans (hb6.mono HB5.out.size))
          have HX6 := Lib.hid (HX5.out.after hb6)
          have HY6 := Lib.hid (HY5.out.after hb6)
          have HR6 := Lib.hid (HR5.out.below hb6).lt
          have y6 := HY6.out.cell 0
          have x6 := HX6.out.cell 0
          have z6 := HX6.out.free 0
          simp at y6 x6
          clear hb6
          by_cases hts : t = []
          · subst hts
            have HPO := Lib.hid (HFIN.out.1 HCN.out rfl)
            go_wp2
            refine bodyPost_ret (v := .tuple #[.agg #[.slice A0 rps.length c0], .int .i64 0]) ?_ rfl ?_
            · have q0 := (HX6.out.set_ 0 (.slice A0 rps.length c0)).cell 0
              simp at q0
              simp [results, Tryd.results25, go_sem, q0]
            · refine ⟨A0, c0, rps, 0, rfl, HPO.out, ?_, HB6.out.setCell (p := ⟨w.heap.size, 0, none⟩) (Nat.le_refl _) _⟩
              have := row_one HX6.out (grown_set (grown_refl w6 (some w.heap.size)) 0 (.slice A0 rps.length c0)) HR6.out (Nat.le_refl _)
              simpa using this
          · have HPO := Lib.hid (HFIN.out.2 (fun h => hts h.2))
            have hq1 : t.isEmpty = false := by simpa using hts
            have hq2 : (t == []) = false := by simpa using hts
            go_wp2
            refine bodyPost_ret (v := .tuple #[.agg #[.slice none 0 0], .int .i64 3]) ?_ rfl ?_
            · have q0 := (HX6.out.set_ 0 (.slice none 0 0)).cell 0
              simp at q0
              simp [results, Tryd.results25, go_sem, q0]
            · exact ⟨none, 0, [], 3, rfl, HPO.out, Row.nil, HB6.out.setCell (p := ⟨w.heap.size, 0, none⟩) (Nat.le_refl _) _⟩
        · have HPO := Lib.hid (HFIN.out.2 (fun h => hcn h.1))
          have HCN := Lib.hid hcn
          clear hcn
          go_wp2_with fail
          refine (rValid_any A0 c0 rps wr HRP.out (by omega) false ⟨(fun h => by cases h), fun h => absurd h HCN.out⟩).mono ?_
          rintro e w5 ⟨rfl, hb5⟩
          have HB5 := Lib.hid (HB.out.trans (hb5.mono HB.out.size))
          have HX5 := Lib.hid (HX.out.after hb5)
          have x5 := HX5.out.cell 0
          have z5 := HX5.out.free 0
          simp at x5
          clear hb5
          go_wp2
          refine bodyPost_ret (v := .tuple #[.agg #[.slice none 0 0], .int .i64 3]) ?_ rfl ?_
          · have q0 := (HX5.out.set_ 0 (.slice none 0 0)).cell 0
            simp at q0
            simp [results, Tryd.results25, go_sem, q0]
          · exact ⟨none, 0, [], 3, rfl, HPO.out, Row.nil, HB5.out.setCell (p := ⟨w.heap.size, 0, none⟩) (Nat.le_refl _) _⟩
      · have HFIN : Hid ((Cnn rps → textR rps = s → ParseOut s rps 0) ∧ (¬ (Cnn rps ∧ textR rps = s) → ParseOut s [] 3)) := by
          obtain rfl : k = ws.length := by omega
          by_cases hs : s = []
          · subst hs
            have hw : ws = [[]] := HW.out.symm
            have := HPSS.out
            rw [hw] at this
            simp at this
            have e : rOne [] = none := rOne_no (a := []) (z := []) rfl rfl (.inl parse_nil)
            rw [e] at this
            cases rps with
            | nil => simp at this
            | cons r l => simp at this
          · have := HPSS.out
            rw [List.take_length] at this
            exact parse_ref hs (HW.out ▸ this)
        clear h1
        by_cases hcn : Cnn rps
        · have HCN := Lib.hid hcn
          obtain ⟨t, ht⟩ : ∃ t, textR rps = t := ⟨_, rfl⟩
          have HT : Hid (∀ r, Cnn r → (∀ x, hasP r x ↔ hasP rps x) → textR r = t) := fun r h1 h2 => by rw [can_eq h1 hcn h2, ht]
          rw [ht] at HFIN
          clear hcn ht
          go_wp2_with fail
          refine (rValid_any A0 c0 rps wr HRP.out (by omega) true ⟨fun _ => HCN.out, fun _ => rfl⟩).mono ?_
          rintro e w5 ⟨rfl, hb5⟩
          have HB5 := Lib.hid (HB.out.trans (hb5.mono HB.out.size))
          have HX5 := Lib.hid (HX.out.after hb5)
          have HY5 := Lib.hid (HY.out.after hb5)
          have HR5 := Lib.hid (HRP.out.below hb5).lt
          have y5 := HY5.out.cell 0
          simp at y5
          clear hb5
          go_wp2_with fail
          refine (rText_any A0 c0 rps w5 HR5.out (by omega) t HT.out).mono ?_
          rintro e w6 ⟨rfl, hb6⟩
          have HB6 := Lib.hid (HB5.out.trans (hb6.mono HB5.out.size))
          have HX6 := Lib.hid (HX5.out.after hb6)
          have HY6 := Lib.hid (HY5.out.after hb6)
          have HR6 := Lib.hid (HR5.out.below hb6).lt
          have y6 := HY6.out.cell 0
          have x6 := HX6.out.cell 0
          have z6 := HX6.out.free 0
          simp at y6 x6
          clear hb6
          by_cases hts : t = s
          · subst hts
            have HPO := Lib.hid (HFIN.out.1 HCN.out rfl)
            go_wp2
            refine bodyPost_ret (v := .tuple #[.agg #[.slice A0 rps.length c0], .int .i64 0]) ?_ rfl ?_
            · have q0 := (HX6.out.set_ 0 (.slice A0 rps.length c0)).cell 0
              simp at q0
              simp [results, Tryd.results25, go_sem, q0]
            · refine ⟨A0, c0, rps, 0, rfl, HPO.out, ?_, HB6.out.setCell (p := ⟨w.heap.size, 0, none⟩) (Nat.le_refl _) _⟩
              have := row_one HX6.out (grown_set (grown_refl w6 (some w.heap.size)) 0 (.slice A0 rps.length c0)) HR6.out (Nat.le_refl _)
              simpa using this
          · have HPO := Lib.hid (HFIN.out.2 (fun h => hts h.2))
            have hq2 : (t == s) = false := by simpa using hts
            go_wp2
            refine bodyPost_ret (v := .tuple #[.agg #[.slice none 0 0], .int .i64 3]) ?_ rfl ?_
            · have q0 := (HX6.out.set_ 0 (.slice none 0 0)).cell 0
              simp at q0
              simp [results, Tryd.results25, go_sem, q0]
            · exact ⟨none, 0, [], 3, rfl, HPO.out, Row.nil, HB6.out.setCell (p := ⟨w.heap.size, 0, none⟩) (Nat.le_refl _) _⟩
        · have HPO := Lib.hid (HFIN.out.2 (fun h => hcn h.1))
          have HCN := Lib.hid hcn
          clear hcn
          go_wp2_with fail
          refine (rValid_any A0 c0 rps wr HRP.out (by omega) false ⟨(fun h => by cases h), fun h => absurd h HCN.out⟩).mono ?_
          rintro e w5 ⟨rfl, hb5⟩
          have HB5 := Lib.hid (HB.out.trans (hb5.mono HB.out.size))
          have HX5 := Lib.hid (HX.out.after hb5)
          have x5 := HX5.out.cell 0
          have z5 := HX5.out.free 0
          simp at x5
          clear hb5
          go_wp2
          refine bodyPost_ret (v := .tuple #[.agg #[.slice none 0 0], .int .i64 3]) ?_ rfl ?_
          · have q0 := (HX5.out.set_ 0 (.slice none 0 0)).cell 0
            simp at q0
            simp [results, Tryd.results25, go_sem, q0]
          · exact ⟨none, 0, [], 3, rfl, HPO.out, Row.nil, HB5.out.setCell (p := ⟨w.heap.size, 0, none⟩) (Nat.le_refl _) _⟩
end Go.Proofs.YtogfhaeohcpkjaaDoor
