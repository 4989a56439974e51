/-
  IncbreakPlays: for every input the law returns true, and its arguments read as before. No condition.
-/
import Derived.Test.YtkpblieanejmeaaRows
import Derived.Test.YtkpblieanejmeaaLift
import Derived.Test.YtkpblieanejmeaaIj1
import Derived.Test.YtkpblieanejmeaaIe0
import Derived.BigQuiet
namespace Go.Proofs.Ytkpblieanejmeaa.LPlays
open Go.ChangeShapes Go.WideShapes Go.ChangeAt Go.RowKit Go.UtYtkpblieanejmeaa Go.Joins
set_option maxRecDepth 100000 in
set_option maxHeartbeats 4000000 in
theorem walk (w : World) (x : PA) (p : PR) (hP : PrAt w w.heap.size x p) (y : TA) (t : BT) (hT : TabAt w w.heap.size y t) (At : Option Addr) (ct : Nat) (X0 : List Int) (hct : X0.length ≤ ct) (hmt : ct ≤ maxLen) (hR : Row w w.heap.size At (ints X0)) (A : Option Addr) (c : Nat) (l : List St) (_hc : l.length ≤ c) (_hm : c ≤ maxLen) (hS : StepsAt w w.heap.size A l) :
    Calls Try.prog 3 #[.agg (startC x p y t At X0.length ct), .slice A l.length c] w fun e w' => e = .returned (.bool true) ∧ Below w.heap.size w w' := by
  obtain ⟨n, hn⟩ : ∃ n, X0.length = n := ⟨_, rfl⟩
  obtain ⟨nl, hnl⟩ : ∃ n, l.length = n := ⟨_, rfl⟩
  have CF := fun (u : World) (hu : Below w.heap.size w u) (v : Bool) (hv : v = true ↔ Few54 p t n l) => few54_any x p y t At n ct A nl c l u (hT.below hu).lt (hS.below hu).lt hnl v hv
  have CP := fun (u : World) (hu : Below w.heap.size w u) (hs : p.spans.length ≤ 16) (v : Bool) (hv : v = true ↔ validP p) => rvalidP_any x p u (hP.below hu).lt (by omega) v hv
  have CV := fun (u : World) (hu : Below w.heap.size w u) (hs : smT t) (v : Bool) (hv : v = true ↔ validT t) => valid29_any y t u (hT.below hu).lt ⟨by have := hs.1.1; omega, by have := hs.1.2; omega⟩ v hv
  have CN := fun (u : World) (hu : Below w.heap.size w u) (hps : p.names.length ≤ 300 ∧ p.spans.length ≤ 16) (hs : smT t) (hn20 : n ≤ 20) => new_any x p y t At ct n X0 u (hP.below hu).lt (hT.below hu).lt (hR.below hu).lt hn (by omega) hs (by omega)
  unfold startC at CF
  unfold PA.val at CP CN
  unfold TA.val at CV CN
  unfold RetNew at CN
  replace CF := Lib.hid CF
  replace CP := Lib.hid CP
  replace CV := Lib.hid CV
  replace CN := Lib.hid CN
  have HPR := Lib.hid hP
  have HTB := Lib.hid hT
  have HRX := Lib.hid hR
  have HSA := Lib.hid hS
  have HN := Lib.hid hn
  have HNL := Lib.hid hnl
  obtain ⟨w1, hw1, HB1, HK1⟩ := boxV w 33 (startC x p y t At n ct)
  obtain ⟨⟨a0, a1⟩, ⟨a2, a3, a4, a5, a6, a7⟩, a8, al⟩ := start_cells HK1.out
  have HCT := Lib.hid (And.intro (show n ≤ ct by rw [← hn]; exact hct) hmt)
  unfold startC at hw1 ⊢
  rw [hn, hnl]
  clear hP hT hR hS hn hnl hct hmt
  have CR := fun (u : World) (hu : Below w.heap.size w u) (hps : p.names.length ≤ 300 ∧ p.spans.length ≤ 16) (hs : smT t) (hn20 : n ≤ 20) => rnew_any x p y t At ct n u (HPR.out.below hu).lt (HTB.out.below hu).lt (by omega) ⟨by have := hs.1.1; omega, by have := hs.1.2; omega⟩ (by omega)
  unfold RetRN refC PA.val TA.val at CR
  replace CR := Lib.hid CR
  by_cases hf : Few54 p t n l
  case neg =>
    have CF1 := Lib.hid (CF.out w1 HB1.out false ⟨fun h => (by cases h), fun h => absurd h hf⟩)
    clear CF CP CV CN CR hf
    go_enter Try.func3, Try.ntmps3
    go_upto_region 1 with fail
    rw [← hw1]
    clear hw1
    go_wp2_with fail
    refine (CF1.out).mono ?_
    rintro e w2 ⟨rfl, hb2⟩
    have HB2 := Lib.hid (HB1.out.trans (hb2.mono HB1.out.size))
    have HK2 := Lib.hid (HK1.out.after hb2)
    clear hb2
    clear a0 a1 a2 a3 a4 a5 a6 a7 a8 al
    go_wp2_with fail
    refine (alive54_any _).mono ?_
    rintro e w3 ⟨rfl, hb3⟩
    have HB3 := Lib.hid (HB2.out.trans (hb3.mono HB2.out.size))
    clear hb3
    go_wp2
    go_ret
    exact ⟨rfl, HB3.out⟩
  case pos =>
    have CF1 := Lib.hid (CF.out w1 HB1.out true ⟨fun _ => hf, fun _ => rfl⟩)
    have HF := Lib.hid hf
    have hps := hf.2.1
    have hsm := hf.2.2.1
    have hn20 := hf.2.2.2.1
    have hl8 : nl ≤ 8 := by have := hf.1; rw [HNL.out] at this; exact this
    have HPS := Lib.hid hps
    have HSM := Lib.hid hsm
    have her := eq_rg
    clear hf CF CP CV hps hsm
    go_enter Try.func3, Try.ntmps3
    go_upto_region 1 with fail
    rw [← hw1]
    clear hw1
    go_wp2_with fail
    refine (CF1.out).mono ?_
    rintro e w2 ⟨rfl, hb2⟩
    have HB2 := Lib.hid (HB1.out.trans (hb2.mono HB1.out.size))
    have HK2 := Lib.hid (HK1.out.after hb2)
    clear hb2
    clear a0 a1 a2 a3 a4 a5 a6 a7 a8 al
    obtain ⟨⟨a0, a1⟩, ⟨a2, a3, a4, a5, a6, a7⟩, a8, al⟩ := start_cells HK2.out
    go_wp2_with fail
    refine (CN.out w2 HB2.out HPS.out HSM.out hn20).mono ?_
    rintro e w3 ⟨h3, hb3⟩
    have HB23 := Lib.hid hb3
    have HB3 := Lib.hid (HB2.out.trans (hb3.mono HB2.out.size))
    have HK3 := Lib.hid (HK2.out.after hb3)
    clear hb3 CF1
    clear a0 a1 a2 a3 a4 a5 a6 a7 a8 al
    obtain ⟨⟨a0, a1⟩, ⟨a2, a3, a4, a5, a6, a7⟩, a8, al⟩ := start_cells HK3.out
    by_cases hval : validP p ∧ validT t
    case neg =>
      obtain rfl : e = .returned (.tuple #[.pointer none, .int .i64 11]) := by
        rcases h3 with ⟨-, h⟩ | ⟨h, -⟩
        · exact h
        · exact absurd h hval
      have HV := Lib.hid hval
      clear h3 hval
      go_wp2_with fail
      refine (CR.out w3 HB3.out HPS.out HSM.out hn20).mono ?_
      rintro e w4 ⟨h4, hb4⟩
      obtain rfl : e = .returned (.tuple #[.agg #[.slice none 0 0, .slice none 0 0, .slice none 0 0, .slice none 0 0, .slice none 0 0, .slice none 0 0, .slice none 0 0, .slice none 0 0, .slice none 0 0, .slice none 0 0], .int .i64 11]) := by
        rcases h4 with ⟨-, h⟩ | ⟨h, -⟩
        · exact h
        · exact absurd h HV.out
      have HB4 := Lib.hid (HB3.out.trans (hb4.mono HB3.out.size))
      clear h4 hb4 CN CR
      clear a0 a1 a2 a3 a4 a5 a6 a7 a8 al
      obtain ⟨w5, hw5, HC5, -⟩ := boxV w4 42 #[.slice none 0 0, .slice none 0 0, .slice none 0 0, .slice none 0 0, .slice none 0 0, .slice none 0 0, .slice none 0 0, .slice none 0 0, .slice none 0 0, .slice none 0 0]
      have HB5 := Lib.hid (HB4.out.trans (HC5.out.mono HB4.out.size))
      go_upto_region 5 with fail
      rw [← hw5]
      clear hw5
      go_wp2_with fail
      refine (alive54_any _).mono ?_
      rintro e w6 ⟨rfl, hb6⟩
      have HB6 := Lib.hid (HB5.out.trans (hb6.mono HB5.out.size))
      clear hb6
      go_wp2
      go_ret
      exact ⟨rfl, HB6.out⟩
    case pos =>
      obtain ⟨D, rfl, hd3⟩ : ∃ D, e = .returned (.tuple #[.pointer (some ⟨D, 0, none⟩), .int .i64 0]) ∧ DocAt w3 w2.heap.size D (.slice none 0 0) p t X0 [] := by
        rcases h3 with ⟨h, -⟩ | ⟨-, D, h1, h2⟩
        · exact absurd hval h
        · exact ⟨D, h1, h2⟩
      have HV := Lib.hid hval
      have HD3 := Lib.hid hd3
      clear h3 hval hd3
      go_wp2_with fail
      refine (CR.out w3 HB3.out HPS.out HSM.out hn20).mono ?_
      rintro e w4 ⟨h4, hb4⟩
      obtain rfl : e = .returned (.tuple #[.agg #[.slice x.n p.names.length x.cn, .slice x.s p.spans.length x.cs, .slice y.c t.cls.length y.cc, .slice y.a t.act.length y.ca, .slice y.ln t.ln.length y.cln, .slice y.lm t.lm.length y.clm, .slice y.rn t.rn.length y.crn, .slice y.rm t.rm.length y.crm, .slice At n ct, .slice none 0 0], .int .i64 0]) := by
        rcases h4 with ⟨h, -⟩ | ⟨-, h⟩
        · exact absurd HV.out h
        · exact h
      have HB34 := Lib.hid hb4
      have HB4 := Lib.hid (HB3.out.trans (hb4.mono HB3.out.size))
      clear h4 hb4 CN CR
      clear a0 a1 a2 a3 a4 a5 a6 a7 a8 al
      obtain ⟨w5, hw5, HC5, HX5⟩ := boxV w4 42 (refC x p y t At n ct none 0 0)
      have HB5 := Lib.hid (HB4.out.trans (HC5.out.mono HB4.out.size))
      have HB25 := Lib.hid (HB23.out.trans ((HB34.out.trans (HC5.out.mono HB34.out.size)).mono HB23.out.size))
      obtain ⟨gx, hgx⟩ : ∃ z, z = w4.heap.size := ⟨_, rfl⟩
      rw [← hgx] at HX5
      have hgx3 : w3.heap.size ≤ gx := by have := HB34.out.size; omega
      have HGXB : Hid (w2.heap.size ≤ gx) := Lib.hid (by have := HB23.out.size; omega)
      have HNF5 : Hid (¬ Foot D (.slice none 0 0) gx ∧ gx < w5.heap.size) := Lib.hid ⟨fun h => by have := HD3.out.footLt gx h; omega, HX5.out.lt⟩
      have HD5 : Hid (DocE (fun b => b = gx) w5 w2.heap.size D (.slice none 0 0) p t X0 [] []) := Lib.hid ⟨HD3.out.toE (HB34.out.trans (HC5.out.mono HB34.out.size)) (fun b hb => by rw [hb]; exact hgx3), Hist.nil _, Short.nil (by rw [HN.out]; exact hn20)⟩
      have HR5 : Hid (RefBox w5 (FootE (fun b => b = gx) D (.slice none 0 0)) gx p t X0 []) := Lib.hid (by
        have hw25 : w2.heap.size ≤ w5.heap.size := HB25.out.size
        have hge : ∀ b, FootE (fun b => b = gx) D (.slice none 0 0) b → w.heap.size ≤ b := fun b hb => by
          have h2 := HB2.out.size
          rcases hb with hb | hb
          · have := HD3.out.foot b hb
            omega
          · have h3 := HB23.out.size
            have : b = gx := hb
            omega
        refine ⟨_, _, _, _, _, _, _, _, _, _, HX5.out, RefAt.more (B := w.heap.size) ?_ HB5.out.size⟩
        refine RefAt.era_below ?_ hge
        refine RefAt.below (w := w) ?_ HB5.out
        exact ⟨x, y, At, ct, none, 0, by rw [HN.out]; rfl, HPR.out, HTB.out, ⟨HRX.out, by rw [HN.out]; exact HCT.out.1, HCT.out.2⟩, ⟨[], rfl, Row.nil, fun k xs h => by simp at h⟩, Nat.le_refl _, by simp [maxLen]⟩)
      unfold refC at hw5
      have HS2 := Lib.hid ((HSA.out.below HB2.out).lt)
      have HSM' : Hid (p.spans.length ≤ 100000 ∧ t.cls.length ≤ 1000 ∧ t.act.length ≤ 1000) := Lib.hid ⟨by have := HPS.out.2; omega, by have := HSM.out.1.1; omega, by have := HSM.out.1.2; omega⟩
      go_upto_region 5 with fail
      rw [← hw5, ← hgx]
      clear hw5 hgx hgx3
      go_wp2
      go_loopw [58] (fun i wr => ∃ (k : Nat) (uv : Value) (X : List Int) (U : List EdN) (Bf : List (List Int)), k ≤ nl ∧ i = .int .i64 (k : Int) ∧ Hid (DocE (fun b => b = gx) wr w2.heap.size D uv p t X U Bf) ∧ Hid (RefBox wr (FootE (fun b => b = gx) D uv) gx p t X Bf) ∧ Hid (¬ Foot D uv gx ∧ gx < wr.heap.size) ∧ Bf.length ≤ k ∧ Hid (Below w2.heap.size w2 wr)) (fun i _ => nl - (intOf i).toNat)
      case atStart => exact ⟨0, .slice none 0 0, X0, [], [], by omega, rfl, HD5, HR5, HNF5, Nat.le_refl _, HB25⟩
      case round =>
        obtain ⟨k, uv, X, U, Bf, hk, rfl, HD, HX, HNF, hbk, HB⟩ := hrel
        have HBW := Lib.hid (HB2.out.trans (HB.out.mono HB2.out.size))
        by_cases hkn : k < nl
        ·
          obtain ⟨b, o, s, A', c', hA, hb, hs, ⟨c0, c1, c2, c3, c4⟩, ⟨hic, hicm⟩, hri⟩ := (HS2.out.below HB.out).at_ (k := k) (by rw [HNL.out]; exact hkn)
          subst hA
          have hbl : b < wr.heap.size := by have := HB.out.size; omega
          obtain ⟨ni, hni⟩ : ∃ z, s.ins.length = z := ⟨_, rfl⟩
          rw [hni] at c2 hic
          have hni40 : ni ≤ 40 := by rw [← hni]; exact HF.out.2.2.2.2 s (List.mem_of_getElem? hs.out)
          obtain ⟨w6, hw6, HB6', HK6⟩ := boxV wr 48 #[.int .i64 s.x, .int .i64 s.y, .slice A' ni c', .bool s.un, .int .i64 s.pos]
          have HB6 := Lib.hid (HB.out.trans (HB6'.out.mono HB.out.size))
          have HD6 := Lib.hid (HD.out.after HB6'.out)
          have HRI := Lib.hid (hri.out.below (HB6'.out.mono HB.out.size))
          obtain ⟨g, hg⟩ : ∃ z, z = wr.heap.size := ⟨_, rfl⟩
          rw [← hg] at HK6
          have HGG := Lib.hid hg
          have HNI := Lib.hid hni
          have HIC := Lib.hid (And.intro hic hicm)
          have HSL := Lib.hid hs.out
          clear hni hic hicm hri hs
          have HNG : Hid (¬ Foot D uv g ∧ g ≠ gx) := Lib.hid ⟨fun h => by have := HD.out.1.doc.footLt g h; omega, by have := HNF.out.2; omega⟩
          have HX6 : Hid (RefBox w6 (FootE (fun b => b = gx) D uv) gx p t X Bf) := Lib.hid (HX.out.kept (Kept.below (B := w2.heap.size) HB.out.size HB6'.out) (Grew.refl _ _) (HB6'.out.block gx HNF.out.2))
          have HF6 : Hid (∀ b, FootE (fun b => b = gx) D uv b → b < w6.heap.size) := Lib.hid (fun b hb => by
            rcases hb with hb | hb
            · exact HD6.out.1.doc.footLt b hb
            · have : b = gx := hb
              have h1 := HNF.out.2
              have h2 := HB6'.out.size
              omega)
          obtain ⟨v0, v1, v2, v3, v4, v5, v6, v7, v8, v9, hbx, hra⟩ := HX6.out
          have HBX := Lib.hid hbx
          have HRA := Lib.hid hra
          clear hbx hra HX HX6
          have e0 := HK6.out.cell 0
          have e1 := HK6.out.cell 1
          have e2 := HK6.out.cell 2
          have e3 := HK6.out.cell 3
          have e4 := HK6.out.cell 4
          have el := HK6.out.lt
          simp only [List.getElem?_toArray, List.getElem?_cons_zero, List.getElem?_cons_succ] at e0 e1 e2 e3 e4
          obtain ⟨⟨x0, x1, x2, x3, x4, x5, x6, x7, x8, x9⟩, ⟨f0, f1, f2, f3, f4, f5, f6, f7, f8, f9⟩, xl⟩ := cells10 HBX.out
          go_upto_region 12 with fail
          rw [← hw6, ← hg]
          clear hw6 hg c0 c1 c2 c3 c4
          go_upto_if 63 with fail
          go_cut [] (fun wx => ∃ (uv' : Value) (X' : List Int) (U' : List EdN) (Bf' : List (List Int)), Hid (DocE (fun b => b = gx) wx w2.heap.size D uv' p t X' U' Bf') ∧ Hid (RefBox wx (FootE (fun b => b = gx) D uv') gx p t X' Bf') ∧ Hid (¬ Foot D uv' gx ∧ gx < wx.heap.size) ∧ Bf'.length ≤ k + 1 ∧ Hid (Below w2.heap.size w2 wx) ∧ Hid (Blk wx g 48 #[.int .i64 s.x, .int .i64 s.y, .slice A' ni c', .bool s.un, .int .i64 s.pos]))
          case first =>
            obtain ⟨un, hun⟩ : ∃ u, s.un = u := ⟨_, rfl⟩
            rw [hun] at e3
            have HUN := Lib.hid hun
            rw [hun]
            clear hun
            cases un with
            | true =>
              go_wp2_with fail
              refine (rundo_all (FootE (fun b => b = gx) D uv) _ p t X Bf w6 HRA.out (by omega)).mono ?_
              rintro e w7 ⟨v', b7, X7, Bf7, rfl, hra7, hb7, ho7⟩
              obtain ⟨xr, yr, Ar, cr, Abr, cbr, hv, -⟩ := id hra7
              obtain ⟨nx, hnx⟩ : ∃ z, X7.length = z := ⟨_, rfl⟩
              obtain ⟨nB, hnB⟩ : ∃ z, Bf7.length = z := ⟨_, rfl⟩
              rw [hnx, hnB] at hv
              unfold refC at hv
              subst hv
              have HNX := Lib.hid (And.intro hnx hnB)
              clear hnx hnB
              have HB67 := Lib.hid hb7
              have HRA7 := Lib.hid hra7
              have hl7 := ho7.len
              have HO7 := Lib.hid ho7
              clear hra7 hb7 ho7 x0 x1 x2 x3 x4 x5 x6 x7 x8 x9 f0 f1 f2 f3 f4 f5 f6 f7 f8 f9 xl e0 e1 e2 e3 e4 el
              obtain ⟨w8, hw8, HC8, HY8⟩ := boxV w7 42 #[.slice xr.n p.names.length xr.cn, .slice xr.s p.spans.length xr.cs, .slice yr.c t.cls.length yr.cc, .slice yr.a t.act.length yr.ca, .slice yr.ln t.ln.length yr.cln, .slice yr.lm t.lm.length yr.clm, .slice yr.rn t.rn.length yr.crn, .slice yr.rm t.rm.length yr.crm, .slice Ar nx cr, .slice Abr nB cbr]
              obtain ⟨g8, hg8⟩ : ∃ z, z = w7.heap.size := ⟨_, rfl⟩
              rw [← hg8] at HY8
              have HB68 := Lib.hid (HB67.out.trans (HC8.out.mono HB67.out.size))
              have HX8 := Lib.hid (HBX.out.after HB68.out)
              have HG8 := Lib.hid (HK6.out.after HB68.out)
              have HD8 := Lib.hid (HD6.out.after HB68.out)
              have HRA8 := Lib.hid (HRA7.out.kept (Kept.below (B := w2.heap.size) (by have := HB6.out.size; have := HB67.out.size; omega) HC8.out) (Grew.refl _ _))
              go_upto_region 14 with fail
              rw [← hw8, ← hg8]
              clear hw8
              obtain ⟨⟨x0, x1, x2, x3, x4, x5, x6, x7, x8, x9⟩, ⟨f0, f1, f2, f3, f4, f5, f6, f7, f8, f9⟩, xl⟩ := cells10 HX8.out
              obtain ⟨⟨z0, z1, z2, z3, z4, z5, z6, z7, z8, z9⟩, ⟨q0, q1, q2, q3, q4, q5, q6, q7, q8, q9⟩, zl⟩ := cells10 HY8.out
              have hgx8 : g8 ≠ gx := by have h1 := HNF.out.2; have h2 := HB6'.out.size; have h3 := HB67.out.size; omega
              obtain ⟨w9, hw9, HX9, HG9, HD9, HRA9, HB9⟩ : ∃ z, z = put10 w8 gx (.slice xr.n p.names.length xr.cn) (.slice xr.s p.spans.length xr.cs) (.slice yr.c t.cls.length yr.cc) (.slice yr.a t.act.length yr.ca) (.slice yr.ln t.ln.length yr.cln) (.slice yr.lm t.lm.length yr.clm) (.slice yr.rn t.rn.length yr.crn) (.slice yr.rm t.rm.length yr.crm) (.slice Ar nx cr) (.slice Abr nB cbr) ∧ Hid (Blk z gx 42 #[.slice xr.n p.names.length xr.cn, .slice xr.s p.spans.length xr.cs, .slice yr.c t.cls.length yr.cc, .slice yr.a t.act.length yr.ca, .slice yr.ln t.ln.length yr.cln, .slice yr.lm t.lm.length yr.clm, .slice yr.rn t.rn.length yr.crn, .slice yr.rm t.rm.length yr.crm, .slice Ar nx cr, .slice Abr nB cbr]) ∧ Hid (Blk z g 48 #[.int .i64 s.x, .int .i64 s.y, .slice A' ni c', .bool s.un, .int .i64 s.pos]) ∧ Hid (DocE (fun b => b = gx) z w2.heap.size D uv p t X U Bf) ∧ Hid (RefAt (era z (FootE (fun b => b = gx) D uv)) z.heap.size (.agg #[.slice xr.n p.names.length xr.cn, .slice xr.s p.spans.length xr.cs, .slice yr.c t.cls.length yr.cc, .slice yr.a t.act.length yr.ca, .slice yr.ln t.ln.length yr.cln, .slice yr.lm t.lm.length yr.clm, .slice yr.rn t.rn.length yr.crn, .slice yr.rm t.rm.length yr.crm, .slice Ar nx cr, .slice Abr nB cbr]) p t X7 Bf7) ∧ Hid (Below w2.heap.size w2 z) := by
                refine ⟨_, rfl, Lib.hid (put10_blk HX8.out), Lib.hid ((put10_keep g HNG.out.2).trans HG8.out), Lib.hid ⟨HD8.out.1.touch (fun b hb => put10_keep b hb) put10_size (fun b hb => by rw [hb]; exact HNF.out.1), HD8.out.2⟩, Lib.hid (HRA8.out.touch (fun b hb => put10_keep b (fun e => hb (.inr e))) put10_size), Lib.hid (put10_below (HB6.out.trans (HB68.out.mono HB6.out.size)) ?_)⟩
                exact HGXB.out
              unfold put10 at hw9
              replace hw9 := hw9.symm
              clear hg8
              go_wp2_with fail
              clear hw9 x0 x1 x2 x3 x4 x5 x6 x7 x8 x9 f0 f1 f2 f3 f4 f5 f6 f7 f8 f9 xl z0 z1 z2 z3 z4 z5 z6 z7 z8 z9 q0 q1 q2 q3 q4 q5 q6 q7 q8 q9 zl
              refine (undo_allE (fun b => b = gx) w2.heap.size D uv p t X U Bf w9 HD9.out (fun b hb => by rw [hb]; exact HX9.out.lt) (by omega) HSM'.out.1 HSM'.out.2).mono ?_
              rintro e w10 ⟨b10, uv10, X10, U10, Bf10, rfl, hd10, ⟨hk10, hg10⟩, ho10⟩
              obtain ⟨rfl, rfl, rfl⟩ := HO7.out.uniq ho10
              have HD10 := Lib.hid hd10
              have HB10 := Lib.hid (HB9.out.trans hk10.1)
              have HX10 : Hid (RefBox w10 (FootE (fun b => b = gx) D uv10) gx p t X7 Bf7) := Lib.hid ⟨_, _, _, _, _, _, _, _, _, _, HX9.out.kept hk10 HNF.out.1, HRA9.out.kept hk10.ext hg10.ext⟩
              have HNF10 : Hid (¬ Foot D uv10 gx ∧ gx < w10.heap.size) := Lib.hid ⟨fun h => by
                rcases hg10 gx h with h1 | h1
                · exact HNF.out.1 h1
                · have := HX9.out.lt
                  omega, Nat.lt_of_lt_of_le HX9.out.lt hk10.1.size⟩
              have HG10 := Lib.hid (HG9.out.kept hk10 HNG.out.1)
              have dq : (b7 != b7) = false := by simp
              have dq2 : (b7 == b7) = true := by simp
              clear hd10 hk10 hg10 ho10
              go_wp2
              go_meet
              case rel => exact ⟨uv10, X7, U10, Bf7, HD10, HX10, HNF10, by omega, HB10, by rw [HUN.out] at *; exact HG10⟩
            | false =>
              go_wp2_with fail
              refine (redit_all (FootE (fun b => b = gx) D uv) s.x s.y _ p t X Bf s.ins A' ni c' w6 HRA.out HF6.out (HRI.out.more HB6.out.size) HNI.out hni40 (HD6.out.len (by omega)) (by omega) HSM'.out.1 HSM'.out.2).mono ?_
              rintro e w7 ⟨v', lo, hi, code, X7, Bf7, rfl, hra7, hb7, ho7⟩
              obtain ⟨xr, yr, Ar, cr, Abr, cbr, hv, -⟩ := id hra7
              obtain ⟨nx, hnx⟩ : ∃ z, X7.length = z := ⟨_, rfl⟩
              obtain ⟨nB, hnB⟩ : ∃ z, Bf7.length = z := ⟨_, rfl⟩
              rw [hnx, hnB] at hv
              unfold refC at hv
              subst hv
              have HNX := Lib.hid (And.intro hnx hnB)
              clear hnx hnB
              have HB67 := Lib.hid hb7
              have HRA7 := Lib.hid hra7
              have hl7 := ho7.len
              have HO7 := Lib.hid ho7
              clear hra7 hb7 ho7 x0 x1 x2 x3 x4 x5 x6 x7 x8 x9 f0 f1 f2 f3 f4 f5 f6 f7 f8 f9 xl e0 e1 e2 e3 e4 el
              obtain ⟨w8, hw8, HC8, HY8'⟩ := boxV w7 42 #[.slice xr.n p.names.length xr.cn, .slice xr.s p.spans.length xr.cs, .slice yr.c t.cls.length yr.cc, .slice yr.a t.act.length yr.ca, .slice yr.ln t.ln.length yr.cln, .slice yr.lm t.lm.length yr.clm, .slice yr.rn t.rn.length yr.crn, .slice yr.rm t.rm.length yr.crm, .slice Ar nx cr, .slice Abr nB cbr]
              obtain ⟨w8b, hw8b, HC8b, HQ8⟩ := boxV w8 52 #[.int .i64 lo, .int .i64 hi]
              have hz8 : w8.heap.size = w7.heap.size + 1 := by rw [hw8]; simp
              rw [hz8] at HQ8
              obtain ⟨g8, hg8⟩ : ∃ z, z = w7.heap.size := ⟨_, rfl⟩
              obtain ⟨gq, hgq⟩ : ∃ z, z = w7.heap.size + 1 := ⟨_, rfl⟩
              rw [← hg8] at HY8'
              rw [← hgq] at HQ8
              have HY8 := Lib.hid (HY8'.out.after HC8b.out)
              have HB78 : Hid (Below w7.heap.size w7 w8b) := Lib.hid (HC8.out.trans (HC8b.out.mono HC8.out.size))
              have HB68 := Lib.hid (HB67.out.trans (HB78.out.mono HB67.out.size))
              have HX8 := Lib.hid (HBX.out.after HB68.out)
              have HG8 := Lib.hid (HK6.out.after HB68.out)
              have HD8 := Lib.hid (HD6.out.after HB68.out)
              have HRA8 := Lib.hid (HRA7.out.kept (Kept.below (B := w2.heap.size) (by have := HB6.out.size; have := HB67.out.size; omega) HB78.out) (Grew.refl _ _))
              have hgx8 : g8 ≠ gx := by have h1 := HNF.out.2; have h2 := HB6'.out.size; have h3 := HB67.out.size; omega
              have hgxq : gq ≠ gx := by have h1 := HNF.out.2; have h2 := HB6'.out.size; have h3 := HB67.out.size; omega
              have HNQ : Hid (¬ Foot D uv gq) := Lib.hid (fun h => by have h1 := HD6.out.1.doc.footLt gq h; have h3 := HB67.out.size; omega)
              go_upto_region 18 with fail
              rw [← hw8, ← hw8b, ← hgq, ← hg8]
              clear hw8 hw8b hgq hg8 hz8
              obtain ⟨⟨x0, x1, x2, x3, x4, x5, x6, x7, x8, x9⟩, ⟨f0, f1, f2, f3, f4, f5, f6, f7, f8, f9⟩, xl⟩ := cells10 HX8.out
              obtain ⟨⟨z0, z1, z2, z3, z4, z5, z6, z7, z8, z9⟩, ⟨q0, q1, q2, q3, q4, q5, q6, q7, q8, q9⟩, zl⟩ := cells10 HY8.out
              obtain ⟨w9, hw9, HX9, HG9, HD9, HRA9, HQ9, HB9, HB69⟩ : ∃ z, z = put10 w8b gx (.slice xr.n p.names.length xr.cn) (.slice xr.s p.spans.length xr.cs) (.slice yr.c t.cls.length yr.cc) (.slice yr.a t.act.length yr.ca) (.slice yr.ln t.ln.length yr.cln) (.slice yr.lm t.lm.length yr.clm) (.slice yr.rn t.rn.length yr.crn) (.slice yr.rm t.rm.length yr.crm) (.slice Ar nx cr) (.slice Abr nB cbr) ∧ Hid (Blk z gx 42 #[.slice xr.n p.names.length xr.cn, .slice xr.s p.spans.length xr.cs, .slice yr.c t.cls.length yr.cc, .slice yr.a t.act.length yr.ca, .slice yr.ln t.ln.length yr.cln, .slice yr.lm t.lm.length yr.clm, .slice yr.rn t.rn.length yr.crn, .slice yr.rm t.rm.length yr.crm, .slice Ar nx cr, .slice Abr nB cbr]) ∧ Hid (Blk z g 48 #[.int .i64 s.x, .int .i64 s.y, .slice A' ni c', .bool s.un, .int .i64 s.pos]) ∧ Hid (DocE (fun b => b = gx) z w2.heap.size D uv p t X U Bf) ∧ Hid (RefAt (era z (FootE (fun b => b = gx) D uv)) z.heap.size (.agg #[.slice xr.n p.names.length xr.cn, .slice xr.s p.spans.length xr.cs, .slice yr.c t.cls.length yr.cc, .slice yr.a t.act.length yr.ca, .slice yr.ln t.ln.length yr.cln, .slice yr.lm t.lm.length yr.clm, .slice yr.rn t.rn.length yr.crn, .slice yr.rm t.rm.length yr.crm, .slice Ar nx cr, .slice Abr nB cbr]) p t X7 Bf7) ∧ Hid (Blk z gq 52 #[.int .i64 lo, .int .i64 hi]) ∧ Hid (Below w2.heap.size w2 z) ∧ Hid (Below w2.heap.size w6 z) :=
                ⟨_, rfl, Lib.hid (put10_blk HX8.out), Lib.hid ((put10_keep g HNG.out.2).trans HG8.out), Lib.hid ⟨HD8.out.1.touch (fun b hb => put10_keep b hb) put10_size (fun b hb => by rw [hb]; exact HNF.out.1), HD8.out.2⟩, Lib.hid (HRA8.out.touch (fun b hb => put10_keep b (fun e => hb (.inr e))) put10_size), Lib.hid ((put10_keep gq hgxq).trans HQ8.out), Lib.hid (put10_below (HB6.out.trans (HB68.out.mono HB6.out.size)) HGXB.out), Lib.hid (put10_below (HB68.out.mono HB6.out.size) HGXB.out)⟩
              obtain ⟨j0, j1, j2, j3, j4, jl⟩ : w9.cell? ⟨g, 0, none⟩ = some (.int .i64 s.x) ∧ w9.cell? ⟨g, 1, none⟩ = some (.int .i64 s.y) ∧ w9.cell? ⟨g, 2, none⟩ = some (.slice A' ni c') ∧ True ∧ True ∧ g < w9.heap.size := ⟨HG9.out.cell 0, HG9.out.cell 1, HG9.out.cell 2, trivial, trivial, HG9.out.lt⟩
              unfold put10 at hw9
              replace hw9 := hw9.symm
              go_wp2_with fail
              clear hw9 x0 x1 x2 x3 x4 x5 x6 x7 x8 x9 f0 f1 f2 f3 f4 f5 f6 f7 f8 f9 xl z0 z1 z2 z3 z4 z5 z6 z7 z8 z9 q0 q1 q2 q3 q4 q5 q6 q7 q8 q9 zl j0 j1 j2 j3 j4 jl
              have HRI9 : Hid (Row w9 w2.heap.size A' (ints s.ins)) := Lib.hid (HRI.out.below HB69.out)
              refine (edit_allE (fun b => b = gx) s.x s.y w2.heap.size D uv p t X U Bf s.ins A' ni c' w9 HD9.out (fun b hb => by rw [hb]; exact HX9.out.lt) HRI9.out HNI.out hni40 HIC.out.1 HIC.out.2 (by omega) HSM'.out.1 HSM'.out.2).mono ?_
              rintro e w10 ⟨lo2, hi2, code2, uv10, X10, U10, Bf10, rfl, hd10, ⟨hk10, hg10⟩, ho10⟩
              obtain ⟨rfl, rfl, rfl, rfl, rfl⟩ := HO7.out.uniq ho10
              have HD10 := Lib.hid hd10
              have HB10 := Lib.hid (HB9.out.trans hk10.1)
              have HX10 : Hid (RefBox w10 (FootE (fun b => b = gx) D uv10) gx p t X7 Bf7) := Lib.hid ⟨_, _, _, _, _, _, _, _, _, _, HX9.out.kept hk10 HNF.out.1, HRA9.out.kept hk10.ext hg10.ext⟩
              have HNF10 : Hid (¬ Foot D uv10 gx ∧ gx < w10.heap.size) := Lib.hid ⟨fun h => by
                rcases hg10 gx h with h1 | h1
                · exact HNF.out.1 h1
                · have := HX9.out.lt
                  omega, Nat.lt_of_lt_of_le HX9.out.lt hk10.1.size⟩
              have HG10 := Lib.hid (HG9.out.kept hk10 HNG.out.1)
              have HQ10 := Lib.hid (HQ9.out.kept hk10 HNQ.out)
              clear hd10 hk10 hg10 ho10
              obtain ⟨w11, hw11, HC11, HQ11⟩ := boxV w10 52 #[.int .i64 lo, .int .i64 hi]
              have HD11 := Lib.hid (HD10.out.after HC11.out)
              have HB11 := Lib.hid (HB10.out.trans (HC11.out.mono HB10.out.size))
              have HX11 := Lib.hid (HX10.out.kept (Kept.below (B := w2.heap.size) HB10.out.size HC11.out) (Grew.refl _ _) (HC11.out.block gx HNF10.out.2))
              have HNF11 : Hid (¬ Foot D uv10 gx ∧ gx < w11.heap.size) := Lib.hid ⟨HNF10.out.1, Nat.lt_of_lt_of_le HNF10.out.2 HC11.out.size⟩
              have HG11 := Lib.hid (HG10.out.after HC11.out)
              have HQ11' := Lib.hid (HQ10.out.after HC11.out)
              obtain ⟨j0, j1, jl⟩ := blk2 HQ11.out
              obtain ⟨i0, i1, il⟩ := blk2 HQ11'.out
              go_upto_region 20 with fail
              rw [← hw11]
              clear hw11
              go_wp2
              go_meet
              case rel => exact ⟨uv10, X7, U10, Bf7, HD11, HX11, HNF11, by omega, HB11, by rw [HUN.out] at *; exact HG11⟩
          case rest =>
            obtain ⟨uv7, X7, U7, Bf7, HD7, HX7, HNF7, hl7, HB7, HG7⟩ := hcut
            clear e0 e1 e2 e3 e4 el x0 x1 x2 x3 x4 x5 x6 x7 x8 x9 f0 f1 f2 f3 f4 f5 f6 f7 f8 f9 xl
            obtain ⟨m0, m1, m2, m3, m4, m5, m6, m7, m8, m9, hbx7, hra7⟩ := HX7.out
            have HRA7 := Lib.hid hra7
            obtain ⟨xr, yr, Ar, cr, Abr, cbr, hv, -, -, hxr, -⟩ := hra7
            have hx7 := HD7.out.len (by omega)
            obtain ⟨nx, hnx⟩ : ∃ z, X7.length = z := ⟨_, rfl⟩
            obtain ⟨nB, hnB⟩ : ∃ z, Bf7.length = z := ⟨_, rfl⟩
            rw [hnx, hnB] at hv
            rw [hv] at HRA7
            unfold refC at hv HRA7
            simp only [Value.agg.injEq, Array.mk.injEq, List.cons.injEq, and_true] at hv
            obtain ⟨rfl, rfl, rfl, rfl, rfl, rfl, rfl, rfl, rfl, rfl⟩ := hv
            have HXB := Lib.hid hbx7
            have HXR := Lib.hid hxr.1.of_era
            obtain ⟨bb, hbb⟩ : ∃ z, bndL p t X7 = z := ⟨_, rfl⟩
            obtain ⟨N, hN⟩ : ∃ z, bb.length = z := ⟨_, rfl⟩
            obtain ⟨rn, hrn⟩ : ∃ z, nextL bb s.pos = z := ⟨_, rfl⟩
            obtain ⟨rp, hrp⟩ : ∃ z, prevL bb s.pos = z := ⟨_, rfl⟩
            have hNl := bnd_len p t X7
            rw [hbb, hN, hnx] at hNl
            rw [hnx] at hx7
            have CT := fun (u : World) (hu : Below wc.heap.size wc u) => docT_any w2.heap.size D uv7 p t X7 U7 u (HD7.out.1.doc.after hu) (by omega)
            have CB := fun (u : World) (hu : Below wc.heap.size wc u) => docB_any w2.heap.size D uv7 p t X7 U7 u (HD7.out.1.doc.after hu) (by omega)
            have CNx := fun (u : World) (hu : Below wc.heap.size wc u) => docN_any w2.heap.size D uv7 p t X7 U7 s.pos u (HD7.out.1.doc.after hu) (by omega)
            have CPv := fun (u : World) (hu : Below wc.heap.size wc u) => docP_any w2.heap.size D uv7 p t X7 U7 s.pos u (HD7.out.1.doc.after hu) (by omega)
            have CRB := fun (u : World) (hu : Below wc.heap.size wc u) => rB_any _ p t X7 Bf7 u ((HRA7.out.of_era.below hu).more hu.size) (by omega) HSM'.out.1 HSM'.out.2
            have CRN := fun (u : World) (hu : Below wc.heap.size wc u) => rN_any _ p t X7 Bf7 s.pos u ((HRA7.out.of_era.below hu).more hu.size) (by omega) HSM'.out.1 HSM'.out.2
            have CRP := fun (u : World) (hu : Below wc.heap.size wc u) => rP_any _ p t X7 Bf7 s.pos u ((HRA7.out.of_era.below hu).more hu.size) (by omega) HSM'.out.1 HSM'.out.2
            unfold RetInts at CT CB
            unfold RetI at CRB
            rw [hnx] at CT
            rw [hbb, hN] at CB CRB
            rw [hbb, hrn] at CNx CRN
            rw [hbb, hrp] at CPv CRP
            have HNX := Lib.hid hnx
            have HNN := Lib.hid hN
            replace CT := Lib.hid CT
            replace CB := Lib.hid CB
            replace CNx := Lib.hid CNx
            replace CPv := Lib.hid CPv
            replace CRB := Lib.hid CRB
            replace CRN := Lib.hid CRN
            replace CRP := Lib.hid CRP
            clear hnx hnB hbb hN hrn hrp hbx7 hxr
            go_upto_region 22 with fail
            refine wp_region_tree (fun w' => Blk w' g 48 #[.int .i64 s.x, .int .i64 s.y, .slice A' ni c', .bool s.un, .int .i64 s.pos] ∧ Blk w' gx 42 #[.slice xr.n p.names.length xr.cn, .slice xr.s p.spans.length xr.cs, .slice yr.c t.cls.length yr.cc, .slice yr.a t.act.length yr.ca, .slice yr.ln t.ln.length yr.cln, .slice yr.lm t.lm.length yr.clm, .slice yr.rn t.rn.length yr.crn, .slice yr.rm t.rm.length yr.crm, .slice Ar nx cr, .slice Abr nB cbr]) (.float 0 (.float 2 (.float 3 (.one 1 (.one 4 (.float 5 (.float 6 (.float 7 (.float 9 (.one 8 (.one 10 (.one 11 (.float 12 (.float 13 (.float 14 (.float 15 (.float 16 (.float 17 (.float 19 (.float 20 (.float 21 (.one 18 (.one 22 (.float 23 (.float 24 (.float 25 (.float 26 (.float 27 (.float 28 (.float 30 (.float 31 (.float 32 (.one 29 (.one 33 (.float 34 (.float 35 .done)))))))))))))))))))))))))))))))))))) (by kernel_rfl) (by kernel_rfl) (fun _ _ d _ _ h => by cases d <;> exact h) ⟨HG7.out.drew, HXB.out.drew⟩ ?_
            repeat (first
              | (refine wpTr_fskip (by simp only [List.getElem?_toArray, List.getElem?_cons_zero, List.getElem?_cons_succ]; rfl) (by rfl) ?_
                 simp only [Act.put, List.setIfInBounds_toArray, List.set_cons_zero, List.set_cons_succ])
              | (refine wpTr_float (v := ?_) (by simp only [List.getElem?_toArray, List.getElem?_cons_zero, List.getElem?_cons_succ]; rfl) (by rfl) (fun w' hS => ?_) ?_
                 rotate_left
                 ((obtain ⟨hSG, hSX⟩ := hS; have e4' := hSG.cell 4; have el' := hSG.lt; simp only [List.getElem?_toArray, List.getElem?_cons_zero, List.getElem?_cons_succ] at e4'; obtain ⟨⟨b0', b1', b2', b3', b4', b5', b6', b7', b8', b9'⟩, -, bl'⟩ := cells10 hSX); go_simp; first | done | rfl)
                 simp only [Act.put, List.setIfInBounds_toArray, List.set_cons_zero, List.set_cons_succ]))
            refine wpTr_one ?_
            refine stepTr_K (by simp only [List.getElem?_toArray, List.getElem?_cons_zero, List.getElem?_cons_succ]; rfl) (by rfl) (fun K hK => ?_)
            go_simp
            refine (CT.out wc.drew (Below.refl _ _).drew).mono ?_
            rintro e w8 ⟨A8, c8, rfl, -, -, hr8, -, hb8⟩
            have HB8 : Hid (Below wc.heap.size wc w8) := (Below.refl _ _).drew.trans hb8
            have HR8 := Lib.hid hr8
            refine hK.out _ _ ⟨HG7.out.after HB8.out, HXB.out.after HB8.out⟩ ?_
            clear hK K hr8 hb8
            try simp only [Act.put, List.setIfInBounds_toArray, List.set_cons_zero, List.set_cons_succ]
            refine wpTr_one ?_
            refine stepTr_K (by simp only [List.getElem?_toArray, List.getElem?_cons_zero, List.getElem?_cons_succ]; rfl) (by rfl) (fun K hK => ?_)
            go_simp
            refine (eql_any A8 Ar c8 cr nx nx X7 X7 w8 HR8.out (HXR.out.below HB8.out).lt HNX.out HNX.out (by omega) (by omega) true (by simp)).mono ?_
            rintro e w9 ⟨rfl, hb9⟩
            have HB9 := Lib.hid (HB8.out.trans (hb9.mono HB8.out.size))
            refine hK.out _ _ ⟨HG7.out.after HB9.out, HXB.out.after HB9.out⟩ ?_
            clear hK K hb9
            try simp only [Act.put, List.setIfInBounds_toArray, List.set_cons_zero, List.set_cons_succ]
            repeat (first
              | (refine wpTr_fskip (by simp only [List.getElem?_toArray, List.getElem?_cons_zero, List.getElem?_cons_succ]; rfl) (by rfl) ?_
                 simp only [Act.put, List.setIfInBounds_toArray, List.set_cons_zero, List.set_cons_succ])
              | (refine wpTr_float (v := ?_) (by simp only [List.getElem?_toArray, List.getElem?_cons_zero, List.getElem?_cons_succ]; rfl) (by rfl) (fun w' hS => ?_) ?_
                 rotate_left
                 ((obtain ⟨hSG, hSX⟩ := hS; have e4' := hSG.cell 4; have el' := hSG.lt; simp only [List.getElem?_toArray, List.getElem?_cons_zero, List.getElem?_cons_succ] at e4'; obtain ⟨⟨b0', b1', b2', b3', b4', b5', b6', b7', b8', b9'⟩, -, bl'⟩ := cells10 hSX); go_simp; first | done | rfl)
                 simp only [Act.put, List.setIfInBounds_toArray, List.set_cons_zero, List.set_cons_succ]))
            refine wpTr_one ?_
            refine stepTr_K (by simp only [List.getElem?_toArray, List.getElem?_cons_zero, List.getElem?_cons_succ]; rfl) (by rfl) (fun K hK => ?_)
            go_simp
            refine (CB.out w9 HB9.out).mono ?_
            rintro e w10 ⟨A10, c10, rfl, -, -, hr10, -, hb10⟩
            have HB10 := Lib.hid (HB9.out.trans (hb10.mono HB9.out.size))
            have HR10 := Lib.hid hr10
            refine hK.out _ _ ⟨HG7.out.after HB10.out, HXB.out.after HB10.out⟩ ?_
            clear hK K hr10 hb10
            try simp only [Act.put, List.setIfInBounds_toArray, List.set_cons_zero, List.set_cons_succ]
            refine wpTr_one ?_
            refine stepTr_K (by simp only [List.getElem?_toArray, List.getElem?_cons_zero, List.getElem?_cons_succ]; rfl) (by rfl) (fun K hK => ?_)
            go_simp
            refine (CRB.out w10 HB10.out).mono ?_
            rintro e w11 ⟨A11, c11, rfl, -, -, hr11, hb11⟩
            have HB11 := Lib.hid (HB10.out.trans (hb11.mono HB10.out.size))
            have CE := Lib.hid (eql_any A10 A11 c10 c11 N N bb bb w11 (HR10.out.below hb11).lt hr11 HNN.out HNN.out (by omega) (by omega) true (by simp))
            refine hK.out _ _ ⟨HG7.out.after HB11.out, HXB.out.after HB11.out⟩ ?_
            clear hK K hr11 hb11
            try simp only [Act.put, List.setIfInBounds_toArray, List.set_cons_zero, List.set_cons_succ]
            refine wpTr_one ?_
            refine stepTr_K (by simp only [List.getElem?_toArray, List.getElem?_cons_zero, List.getElem?_cons_succ]; rfl) (by rfl) (fun K hK => ?_)
            go_simp
            refine CE.out.mono ?_
            rintro e w12 ⟨rfl, hb12⟩
            have HB12 := Lib.hid (HB11.out.trans (hb12.mono HB11.out.size))
            refine hK.out _ _ ⟨HG7.out.after HB12.out, HXB.out.after HB12.out⟩ ?_
            clear hK K hb12
            try simp only [Act.put, List.setIfInBounds_toArray, List.set_cons_zero, List.set_cons_succ]
            repeat (first
              | (refine wpTr_fskip (by simp only [List.getElem?_toArray, List.getElem?_cons_zero, List.getElem?_cons_succ]; rfl) (by rfl) ?_
                 simp only [Act.put, List.setIfInBounds_toArray, List.set_cons_zero, List.set_cons_succ])
              | (refine wpTr_float (v := ?_) (by simp only [List.getElem?_toArray, List.getElem?_cons_zero, List.getElem?_cons_succ]; rfl) (by rfl) (fun w' hS => ?_) ?_
                 rotate_left
                 ((obtain ⟨hSG, hSX⟩ := hS; have e4' := hSG.cell 4; have el' := hSG.lt; simp only [List.getElem?_toArray, List.getElem?_cons_zero, List.getElem?_cons_succ] at e4'; obtain ⟨⟨b0', b1', b2', b3', b4', b5', b6', b7', b8', b9'⟩, -, bl'⟩ := cells10 hSX); go_simp; first | done | rfl)
                 simp only [Act.put, List.setIfInBounds_toArray, List.set_cons_zero, List.set_cons_succ]))
            refine wpTr_one ?_
            refine stepTr_K (by simp only [List.getElem?_toArray, List.getElem?_cons_zero, List.getElem?_cons_succ]; rfl) (by rfl) (fun K hK => ?_)
            go_simp
            refine (CNx.out w12 HB12.out).mono ?_
            rintro e wx ⟨rfl, hwx⟩
            replace hwx := hwx.symm
            subst hwx
            refine hK.out _ _ ⟨HG7.out.after HB12.out, HXB.out.after HB12.out⟩ ?_
            clear hK K
            try simp only [Act.put, List.setIfInBounds_toArray, List.set_cons_zero, List.set_cons_succ]
            refine wpTr_one ?_
            refine stepTr_K (by simp only [List.getElem?_toArray, List.getElem?_cons_zero, List.getElem?_cons_succ]; rfl) (by rfl) (fun K hK => ?_)
            go_simp
            refine (CRN.out w12 HB12.out).mono ?_
            rintro e w13 ⟨rfl, hb13⟩
            have HB13 := Lib.hid (HB12.out.trans (hb13.mono HB12.out.size))
            refine hK.out _ _ ⟨HG7.out.after HB13.out, HXB.out.after HB13.out⟩ ?_
            clear hK K hb13
            try simp only [Act.put, List.setIfInBounds_toArray, List.set_cons_zero, List.set_cons_succ]
            repeat (first
              | (refine wpTr_fskip (by simp only [List.getElem?_toArray, List.getElem?_cons_zero, List.getElem?_cons_succ]; rfl) (by rfl) ?_
                 simp only [Act.put, List.setIfInBounds_toArray, List.set_cons_zero, List.set_cons_succ])
              | (refine wpTr_float (v := ?_) (by simp only [List.getElem?_toArray, List.getElem?_cons_zero, List.getElem?_cons_succ]; rfl) (by rfl) (fun w' hS => ?_) ?_
                 rotate_left
                 ((obtain ⟨hSG, hSX⟩ := hS; have e4' := hSG.cell 4; have el' := hSG.lt; simp only [List.getElem?_toArray, List.getElem?_cons_zero, List.getElem?_cons_succ] at e4'; obtain ⟨⟨b0', b1', b2', b3', b4', b5', b6', b7', b8', b9'⟩, -, bl'⟩ := cells10 hSX); go_simp; first | done | rfl)
                 simp only [Act.put, List.setIfInBounds_toArray, List.set_cons_zero, List.set_cons_succ]))
            refine wpTr_one ?_
            refine stepTr_K (by simp only [List.getElem?_toArray, List.getElem?_cons_zero, List.getElem?_cons_succ]; rfl) (by rfl) (fun K hK => ?_)
            go_simp
            refine (CPv.out w13 HB13.out).mono ?_
            rintro e wx ⟨rfl, hwx⟩
            replace hwx := hwx.symm
            subst hwx
            refine hK.out _ _ ⟨HG7.out.after HB13.out, HXB.out.after HB13.out⟩ ?_
            clear hK K
            try simp only [Act.put, List.setIfInBounds_toArray, List.set_cons_zero, List.set_cons_succ]
            refine wpTr_one ?_
            refine stepTr_K (by simp only [List.getElem?_toArray, List.getElem?_cons_zero, List.getElem?_cons_succ]; rfl) (by rfl) (fun K hK => ?_)
            go_simp
            refine (CRP.out w13 HB13.out).mono ?_
            rintro e w14 ⟨rfl, hb14⟩
            have HB14 := Lib.hid (HB13.out.trans (hb14.mono HB13.out.size))
            refine hK.out _ _ ⟨HG7.out.after HB14.out, HXB.out.after HB14.out⟩ ?_
            clear hK K hb14
            try simp only [Act.put, List.setIfInBounds_toArray, List.set_cons_zero, List.set_cons_succ]
            repeat (first
              | (refine wpTr_fskip (by simp only [List.getElem?_toArray, List.getElem?_cons_zero, List.getElem?_cons_succ]; rfl) (by rfl) ?_
                 simp only [Act.put, List.setIfInBounds_toArray, List.set_cons_zero, List.set_cons_succ])
              | (refine wpTr_float (v := ?_) (by simp only [List.getElem?_toArray, List.getElem?_cons_zero, List.getElem?_cons_succ]; rfl) (by rfl) (fun w' hS => ?_) ?_
                 rotate_left
                 ((skip); go_simp; first | done | rfl)
                 simp only [Act.put, List.setIfInBounds_toArray, List.set_cons_zero, List.set_cons_succ]))
            refine wpTr_done ?_
            have HD14 := Lib.hid (HD7.out.after HB14.out)
            have HX14 := Lib.hid (HX7.out.kept (Kept.below (B := w2.heap.size) HB7.out.size HB14.out) (Grew.refl _ _) (HB14.out.block gx HNF7.out.2))
            have HNF14 : Hid (¬ Foot D uv7 gx ∧ gx < w14.heap.size) := Lib.hid ⟨HNF7.out.1, Nat.lt_of_lt_of_le HNF7.out.2 HB14.out.size⟩
            have HBF := Lib.hid (HB7.out.trans (HB14.out.mono HB7.out.size))
            go_wp2
            go_roundw
            case rel => exact ⟨k + 1, uv7, X7, U7, Bf7, by omega, by go_num, HD14, HX14, HNF14, by omega, HBF⟩
            case measure => simp [intOf]; omega
        · go_wp2_with fail
          refine (alive54_any _).mono ?_
          rintro e w9 ⟨rfl, hb9⟩
          have HB9 := Lib.hid (HBW.out.trans (hb9.mono HBW.out.size))
          clear hb9
          go_wp2
          go_ret
          exact ⟨rfl, HB9.out⟩
theorem own : ownKnob Try.prog.godebug = none := by kernel_rfl
theorem laidOut : laidOutB Try.prog = true := by kernel_rfl
set_option maxRecDepth 100000 in
theorem lifted (os : Os) (started : os.Started) (H : Type) (enc : TypeId × Value → H) :
    ReturnsInHanded {} Try.checked os 3 .any (Rows.incbreakPlaysSpec.pre6 enc Try.prog Try.f3 Rows.incbreakPlaysRow.domain false) (Rows.incbreakPlaysSpec.post enc Try.prog Try.f3 false true false false) := by
  refine returnsInHanded_of_change (C := Try.checked) own started (by kernel_rfl) Try.func3
    (ChangeSpec.witness6 (enc := enc) (C := Try.checked) false ⟨#[], #[.agg #[.slice none 0 0, .slice none 0 0, .slice none 0 0, .slice none 0 0, .slice none 0 0, .slice none 0 0, .slice none 0 0, .slice none 0 0, .slice none 0 0], .slice none 0 0], []⟩ 8 (by kernel_rfl) (by kernel_rfl) (by kernel_rfl) (by kernel_rfl)) ?_
  intro W base args ds gs before hval0 hW hcnd _
  have hval : ∀ (j : Nat) t v, Try.f3.params[j]? = some t → args[j]? = some v → Value.okWide Try.prog W .any base t v := hval0
  have hW' := hW
  obtain ⟨p, q, hA0, hV, rfl, hfz, hnd⟩ := hW
  have hA : DataW.TrodAll enc Try.prog W 0 (fun _ => true) true Try.f3.params.toList args.toList ds p := hA0
  rw [Try.params3] at hA hval
  obtain ⟨v0, v1, d0, d1, p0, p1, rfl, rfl, rfl, h0, h1⟩ := trodAll_two hA
  obtain ⟨rfl, rfl⟩ := trodVars_none hV
  obtain ⟨xp0, q0, y0, t0, A0, c0, X0, rfl, hP0, hT0, hc0, hm0, hR0⟩ := open_start54 (hval 0 33 v0 rfl rfl) h0
  obtain ⟨ad1, le1, ca1, rfl⟩ := okWide_slice Try.underlying34 (hval 1 34 v1 rfl rfl)
  obtain ⟨fu1, hf1⟩ := h1
  obtain ⟨A1, c1, xs1, hv1, hc1, hm1, hR1⟩ := open_steps (v := .slice ad1 le1 ca1) hf1
  injection hv1 with ea1 eb1 ec1
  subst ea1 eb1 ec1
  refine (walk W xp0 q0 hP0 y0 t0 hT0 A0 c0 X0 hc0 hm0 hR0 ad1 ca1 xs1 hc1 hm1 hR1).mono fun e W' ⟨he, hb⟩ => ⟨_, he, ?_⟩
  exact law_post laidOut (by rw [Try.params3]; exact of_decide_eq_true (by kernel_rfl)) rfl rfl Try.underlying4 hW' rfl hb
theorem holds : Rows.IncbreakPlaysSaid :=
  OpenClaim.holds_of_wide 3 Try.f3 rfl rfl rfl rfl rfl rfl rfl ⟨rfl, rfl, rfl, rfl, rfl⟩ rfl rfl rfl rfl rfl (by kernel_rfl) Try.func3 (by kernel_rfl)
    (of_decide_eq_true (by kernel_rfl)) (by unfold Func.isWrapper; first | (rw [if_pos (by decide +kernel)]; kernel_rfl) | (rw [if_neg (by decide +kernel)]; exact ⟨rfl, rfl⟩))
    (fun os started H enc _ => lifted os started H enc)
end Go.Proofs.Ytkpblieanejmeaa.LPlays
namespace Go.Proofs.Ytkpblieanejmeaa
theorem incbreakPlays_holds : Rows.IncbreakPlaysSaid := LPlays.holds
end Go.Proofs.Ytkpblieanejmeaa
