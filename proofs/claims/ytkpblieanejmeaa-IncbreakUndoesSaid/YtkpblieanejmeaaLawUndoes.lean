/-
  IncbreakUndoes: for every input the law returns true, and its arguments read as before. No condition.
-/
import Derived.Test.YtkpblieanejmeaaRows
import Derived.Test.YtkpblieanejmeaaLift
import Derived.Test.YtkpblieanejmeaaIj0
import Derived.Test.YtkpblieanejmeaaIe0
import Derived.BigQuiet
namespace Go.Proofs.Ytkpblieanejmeaa.LUndoes
open Go.ChangeShapes Go.WideShapes Go.ChangeAt Go.RowKit Go.UtYtkpblieanejmeaa Go.Joins
set_option maxRecDepth 100000 in
set_option maxHeartbeats 4000000 in
theorem walk (w : World) (x : PA) (p : PR) (hP : PrAt w w.heap.size x p) (y : TA) (t : BT) (hT : TabAt w w.heap.size y t) (At : Option Addr) (ct : Nat) (X0 : List Int) (_hct : X0.length ≤ ct) (_hmt : ct ≤ maxLen) (hR : Row w w.heap.size At (ints X0)) (A : Option Addr) (c : Nat) (l : List St) (_hc : l.length ≤ c) (_hm : c ≤ maxLen) (hS : StepsAt w w.heap.size A l) :
    Calls Try.prog 5 #[.agg (startC x p y t At X0.length ct), .slice A l.length c] w fun e w' => e = .returned (.bool true) ∧ Below w.heap.size w w' := by
  obtain ⟨n, hn⟩ : ∃ n, X0.length = n := ⟨_, rfl⟩
  obtain ⟨nl, hnl⟩ : ∃ n, l.length = n := ⟨_, rfl⟩
  have CF := fun (u : World) (hu : Below w.heap.size w u) (v : Bool) (hv : v = true ↔ Few54 p t n l) => few54_any x p y t At n ct A nl c l u (hT.below hu).lt (hS.below hu).lt hnl v hv
  have CP := fun (u : World) (hu : Below w.heap.size w u) (hs : p.spans.length ≤ 16) (v : Bool) (hv : v = true ↔ validP p) => rvalidP_any x p u (hP.below hu).lt (by omega) v hv
  have CV := fun (u : World) (hu : Below w.heap.size w u) (hs : smT t) (v : Bool) (hv : v = true ↔ validT t) => valid29_any y t u (hT.below hu).lt ⟨by have := hs.1.1; omega, by have := hs.1.2; omega⟩ v hv
  have CN := fun (u : World) (hu : Below w.heap.size w u) (hps : p.names.length ≤ 300 ∧ p.spans.length ≤ 16) (hs : smT t) (hn20 : n ≤ 20) => new_any x p y t At ct n X0 u (hP.below hu).lt (hT.below hu).lt (hR.below hu).lt hn (by omega) hs (by omega)
  unfold startC at CF
  unfold PA.val at CP CN
  unfold TA.val at CV CN
  unfold RetNew at CN
  replace CF := Lib.hid CF
  replace CP := Lib.hid CP
  replace CV := Lib.hid CV
  replace CN := Lib.hid CN
  have HPR := Lib.hid hP
  have HTB := Lib.hid hT
  have HRX := Lib.hid hR
  have HSA := Lib.hid hS
  have HN := Lib.hid hn
  have HNL := Lib.hid hnl
  obtain ⟨w1, hw1, HB1, HK1⟩ := boxV w 33 (startC x p y t At n ct)
  obtain ⟨⟨a0, a1⟩, ⟨a2, a3, a4, a5, a6, a7⟩, a8, al⟩ := start_cells HK1.out
  unfold startC at hw1 ⊢
  rw [hn, hnl]
  clear hP hT hR hS hn hnl
  by_cases hf : Few54 p t n l
  case neg =>
    have CF1 := Lib.hid (CF.out w1 HB1.out false ⟨fun h => (by cases h), fun h => absurd h hf⟩)
    clear CF CP CV CN hf
    go_enter Try.func5, Try.ntmps5
    go_upto_region 1 with fail
    rw [← hw1]
    clear hw1
    go_wp2_with fail
    refine (CF1.out).mono ?_
    rintro e w2 ⟨rfl, hb2⟩
    have HB2 := Lib.hid (HB1.out.trans (hb2.mono HB1.out.size))
    have HK2 := Lib.hid (HK1.out.after hb2)
    clear hb2
    clear a0 a1 a2 a3 a4 a5 a6 a7 a8 al
    go_wp2_with fail
    refine (alive54_any _).mono ?_
    rintro e w3 ⟨rfl, hb3⟩
    have HB3 := Lib.hid (HB2.out.trans (hb3.mono HB2.out.size))
    clear hb3
    go_wp2
    go_ret
    exact ⟨rfl, HB3.out⟩
  case pos =>
    have CF1 := Lib.hid (CF.out w1 HB1.out true ⟨fun _ => hf, fun _ => rfl⟩)
    have HF := Lib.hid hf
    have hps := hf.2.1
    have hsm := hf.2.2.1
    have hn20 := hf.2.2.2.1
    have hl8 : nl ≤ 8 := by have := hf.1; rw [HNL.out] at this; exact this
    clear hf CF
    by_cases hvp : validP p
    case neg =>
      have HVP := Lib.hid hvp
      have HPS := Lib.hid hps
      clear hvp hps hsm CV CN
      go_enter Try.func5, Try.ntmps5
      go_upto_region 1 with fail
      rw [← hw1]
      clear hw1
      go_wp2_with fail
      refine (CF1.out).mono ?_
      rintro e w2 ⟨rfl, hb2⟩
      have HB2 := Lib.hid (HB1.out.trans (hb2.mono HB1.out.size))
      have HK2 := Lib.hid (HK1.out.after hb2)
      clear hb2
      clear a0 a1 a2 a3 a4 a5 a6 a7 a8 al
      obtain ⟨⟨a0, a1⟩, ⟨a2, a3, a4, a5, a6, a7⟩, a8, al⟩ := start_cells HK2.out
      go_wp2_with fail
      refine (CP.out w2 HB2.out HPS.out.2 false ⟨fun h => (by cases h), fun h => absurd h HVP.out⟩).mono ?_
      rintro e w3 ⟨rfl, hb3⟩
      have HB3 := Lib.hid (HB2.out.trans (hb3.mono HB2.out.size))
      have HK3 := Lib.hid (HK2.out.after hb3)
      clear hb3
      clear a0 a1 a2 a3 a4 a5 a6 a7 a8 al
      go_wp2_with fail
      refine (alive54_any _).mono ?_
      rintro e w4 ⟨rfl, hb4⟩
      have HB4 := Lib.hid (HB3.out.trans (hb4.mono HB3.out.size))
      clear hb4
      go_wp2
      go_ret
      exact ⟨rfl, HB4.out⟩
    case pos =>
      have HVP := Lib.hid hvp
      have HPS := Lib.hid hps
      have HSM := Lib.hid hsm
      clear hvp hps hsm
      by_cases hvt : validT t
      case neg =>
        have HVT := Lib.hid hvt
        clear hvt CN
        go_enter Try.func5, Try.ntmps5
        go_upto_region 1 with fail
        rw [← hw1]
        clear hw1
        go_wp2_with fail
        refine (CF1.out).mono ?_
        rintro e w2 ⟨rfl, hb2⟩
        have HB2 := Lib.hid (HB1.out.trans (hb2.mono HB1.out.size))
        have HK2 := Lib.hid (HK1.out.after hb2)
        clear hb2
        clear a0 a1 a2 a3 a4 a5 a6 a7 a8 al
        obtain ⟨⟨a0, a1⟩, ⟨a2, a3, a4, a5, a6, a7⟩, a8, al⟩ := start_cells HK2.out
        go_wp2_with fail
        refine (CP.out w2 HB2.out HPS.out.2 true ⟨fun _ => HVP.out, fun _ => rfl⟩).mono ?_
        rintro e w3 ⟨rfl, hb3⟩
        have HB3 := Lib.hid (HB2.out.trans (hb3.mono HB2.out.size))
        have HK3 := Lib.hid (HK2.out.after hb3)
        clear hb3
        clear a0 a1 a2 a3 a4 a5 a6 a7 a8 al
        obtain ⟨⟨a0, a1⟩, ⟨a2, a3, a4, a5, a6, a7⟩, a8, al⟩ := start_cells HK3.out
        go_wp2_with fail
        refine (CV.out w3 HB3.out HSM.out false ⟨fun h => (by cases h), fun h => absurd h HVT.out⟩).mono ?_
        rintro e w4 ⟨rfl, hb4⟩
        have HB4 := Lib.hid (HB3.out.trans (hb4.mono HB3.out.size))
        have HK4 := Lib.hid (HK3.out.after hb4)
        clear hb4
        clear a0 a1 a2 a3 a4 a5 a6 a7 a8 al
        go_wp2_with fail
        refine (alive54_any _).mono ?_
        rintro e w5 ⟨rfl, hb5⟩
        have HB5 := Lib.hid (HB4.out.trans (hb5.mono HB4.out.size))
        clear hb5
        go_wp2
        go_ret
        exact ⟨rfl, HB5.out⟩
      case pos =>
        have HVT := Lib.hid hvt
        clear hvt
        go_enter Try.func5, Try.ntmps5
        go_upto_region 1 with fail
        rw [← hw1]
        clear hw1
        go_wp2_with fail
        refine (CF1.out).mono ?_
        rintro e w2 ⟨rfl, hb2⟩
        have HB2 := Lib.hid (HB1.out.trans (hb2.mono HB1.out.size))
        have HK2 := Lib.hid (HK1.out.after hb2)
        clear hb2
        clear a0 a1 a2 a3 a4 a5 a6 a7 a8 al
        obtain ⟨⟨a0, a1⟩, ⟨a2, a3, a4, a5, a6, a7⟩, a8, al⟩ := start_cells HK2.out
        go_wp2_with fail
        refine (CP.out w2 HB2.out HPS.out.2 true ⟨fun _ => HVP.out, fun _ => rfl⟩).mono ?_
        rintro e w3 ⟨rfl, hb3⟩
        have HB3 := Lib.hid (HB2.out.trans (hb3.mono HB2.out.size))
        have HK3 := Lib.hid (HK2.out.after hb3)
        clear hb3
        clear a0 a1 a2 a3 a4 a5 a6 a7 a8 al
        obtain ⟨⟨a0, a1⟩, ⟨a2, a3, a4, a5, a6, a7⟩, a8, al⟩ := start_cells HK3.out
        go_wp2_with fail
        refine (CV.out w3 HB3.out HSM.out true ⟨fun _ => HVT.out, fun _ => rfl⟩).mono ?_
        rintro e w4 ⟨rfl, hb4⟩
        have HB4 := Lib.hid (HB3.out.trans (hb4.mono HB3.out.size))
        have HK4 := Lib.hid (HK3.out.after hb4)
        clear hb4
        clear a0 a1 a2 a3 a4 a5 a6 a7 a8 al
        obtain ⟨⟨a0, a1⟩, ⟨a2, a3, a4, a5, a6, a7⟩, a8, al⟩ := start_cells HK4.out
        go_wp2_with fail
        refine (CN.out w4 HB4.out HPS.out HSM.out hn20).mono ?_
        rintro e w5 ⟨h5, hb5⟩
        obtain ⟨D, rfl, hd5⟩ : ∃ D, e = .returned (.tuple #[.pointer (some ⟨D, 0, none⟩), .int .i64 0]) ∧ DocAt w5 w4.heap.size D (.slice none 0 0) p t X0 [] := by
          rcases h5 with ⟨h, -⟩ | ⟨-, D, h1, h2⟩
          · exact absurd ⟨HVP.out, HVT.out⟩ h
          · exact ⟨D, h1, h2⟩
        have HB45 := Lib.hid hb5
        have HB5 := Lib.hid (HB4.out.trans (hb5.mono HB4.out.size))
        have HK5 := Lib.hid (HK4.out.after hb5)
        have HD5 : Hid (Doc w5 w4.heap.size D (.slice none 0 0) p t X0 X0 [] []) := Lib.hid ⟨hd5, Hist.nil _, Short.nil (by rw [HN.out]; exact hn20), First.nil _⟩
        have HSM' : Hid (p.spans.length ≤ 100000 ∧ t.cls.length ≤ 1000 ∧ t.act.length ≤ 1000) := Lib.hid ⟨by have := HPS.out.2; omega, by have := HSM.out.1.1; omega, by have := HSM.out.1.2; omega⟩
        have HS4 := Lib.hid ((HSA.out.below HB4.out).lt)
        clear hb5 h5 hd5 CN CP CV CF1
        clear a0 a1 a2 a3 a4 a5 a6 a7 a8 al
        go_wp2
        go_loopw [48, 7] (fun i dn wr => ∃ (k : Nat) (uv : Value) (X : List Int) (U : List EdN) (Bf : List (List Int)), k ≤ nl ∧ i = .int .i64 (k : Int) ∧ dn = .int .i64 (Bf.length : Int) ∧ Hid (Doc wr w4.heap.size D uv p t X0 X U Bf) ∧ Bf.length ≤ k ∧ Hid (Below w4.heap.size w4 wr)) (fun i _ _ => nl - (intOf i).toNat)
        case atStart => exact ⟨0, .slice none 0 0, X0, [], [], by omega, rfl, rfl, HD5, Nat.le_refl _, HB45⟩
        case round =>
          obtain ⟨k, uv, X, U, Bf, hk, rfl, rfl, HD, hbk, HB⟩ := hrel
          obtain ⟨nb, hnb⟩ : ∃ z, Bf.length = z := ⟨_, rfl⟩
          rw [hnb] at hbk ⊢
          have HNB := Lib.hid hnb
          clear hnb
          have HBW := Lib.hid (HB4.out.trans (HB.out.mono HB4.out.size))
          by_cases hkn : k < nl
          · obtain ⟨b, o, s, A', c', hA, hb, hs, ⟨c0, c1, c2, c3, c4⟩, ⟨hic, hicm⟩, hri⟩ := (HS4.out.below HB.out).at_ (k := k) (by rw [HNL.out]; exact hkn)
            subst hA
            have hbl : b < wr.heap.size := by have := HB.out.size; omega
            obtain ⟨ni, hni⟩ : ∃ z, s.ins.length = z := ⟨_, rfl⟩
            rw [hni] at c2 hic
            have hni40 : ni ≤ 40 := by rw [← hni]; exact HF.out.2.2.2.2 s (List.mem_of_getElem? hs.out)
            obtain ⟨w6, hw6, HB6', HK6⟩ := boxV wr 48 #[.int .i64 s.x, .int .i64 s.y, .slice A' ni c', .bool s.un, .int .i64 s.pos]
            have HB6 := Lib.hid (HB.out.trans (HB6'.out.mono HB.out.size))
            have HD6 := Lib.hid (HD.out.after HB6'.out)
            have HRI := Lib.hid (hri.out.below (HB6'.out.mono HB.out.size))
            obtain ⟨g, hg⟩ : ∃ z, z = wr.heap.size := ⟨_, rfl⟩
            rw [← hg] at HK6
            have HGG := Lib.hid hg
            have HNI := Lib.hid hni
            have HIC := Lib.hid (And.intro hic hicm)
            have HSL := Lib.hid hs.out
            clear hni hic hicm hri hs
            have e0 := HK6.out.cell 0
            have e1 := HK6.out.cell 1
            have e2 := HK6.out.cell 2
            have e3 := HK6.out.cell 3
            have e4 := HK6.out.cell 4
            have el := HK6.out.lt
            simp only [List.getElem?_toArray, List.getElem?_cons_zero, List.getElem?_cons_succ] at e0 e1 e2 e3 e4
            go_upto_region 10 with fail
            rw [← hw6, ← hg]
            clear hw6 hg c0 c1 c2 c3 c4
            go_wp2_with fail
            refine (edit_all s.x s.y w4.heap.size D uv p t X0 X U Bf s.ins A' ni c' w6 HD6.out HRI.out HNI.out hni40 HIC.out.1 HIC.out.2 (by rw [HNB.out]; omega) HSM'.out.1 HSM'.out.2).mono ?_
            rintro e w7 ⟨lo, hi, code, uv7, X7, U7, Bf7, rfl, hd7, ⟨hk7, -⟩, ho7⟩
            have HD7 := Lib.hid hd7
            have HB7 := Lib.hid (HB6.out.trans hk7.1)
            have hl7 := ho7.len
            rw [HNB.out] at hl7
            rcases ho7 with ⟨-, rfl, rfl, rfl, -, hB7⟩ | ⟨-, i7, d7, a7, b7, -, -, -, rfl, rfl, rfl, -, hB7, -⟩
            · have HN7 : Hid (Bf7.length = nb) := Lib.hid (by rw [hB7]; exact HNB.out)
              clear hd7 hk7 hB7 e0 e1 e2 e3 e4 el
              obtain ⟨w8, hw8, HC8, -⟩ := boxV w7 52 #[.int .i64 0, .int .i64 0]
              have HD8 := Lib.hid (HD7.out.after HC8.out)
              have HB8 := Lib.hid (HB7.out.trans (HC8.out.mono HB7.out.size))
              go_upto_region 11 with fail
              rw [← hw8]
              clear hw8
              go_wp2
              go_roundw
              case rel => exact ⟨k + 1, uv7, X7, U7, Bf7, by omega, by go_num, by rw [HN7.out], HD8, by rw [HN7.out]; omega, HB8⟩
              case measure => simp [intOf]; omega
            · have HN7 : Hid (Bf7.length = nb + 1) := Lib.hid (by rw [hB7, List.length_append, HNB.out]; rfl)
              clear hd7 hk7 hB7 e0 e1 e2 e3 e4 el
              obtain ⟨w8, hw8, HC8, -⟩ := boxV w7 52 #[.int .i64 (a7 : Int), .int .i64 (b7 : Int)]
              have HD8 := Lib.hid (HD7.out.after HC8.out)
              have HB8 := Lib.hid (HB7.out.trans (HC8.out.mono HB7.out.size))
              go_upto_region 11 with fail
              rw [← hw8]
              clear hw8
              go_wp2
              go_roundw
              case rel => exact ⟨k + 1, uv7, X7, U7, Bf7, by omega, by go_num, by rw [HN7.out]; go_num, HD8, by rw [HN7.out]; omega, HB8⟩
              case measure => simp [intOf]; omega
          · obtain ⟨wl, hwl⟩ : ∃ z, z = wr := ⟨_, rfl⟩
            rw [← hwl] at HD HB HBW ⊢
            clear hwl
            have hb8 : nb ≤ 8 := by omega
            go_wp2
            go_loopw [12] (fun i wr => ∃ (k : Nat) (uv : Value) (X : List Int) (U : List EdN) (Bf : List (List Int)), i = .int .i64 (k : Int) ∧ Hid (Doc wr w4.heap.size D uv p t X0 X U Bf) ∧ Bf.length + k = nb ∧ Hid (Below w4.heap.size w4 wr)) (fun i _ => nb - (intOf i).toNat)
            case atStart => exact ⟨0, uv, X, U, Bf, rfl, HD, HNB.out, HB⟩
            case round =>
              obtain ⟨k2, uv2, X2, U2, Bf2, rfl, HD2, hbk2, HBr⟩ := hrel
              have HBWr := Lib.hid (HB4.out.trans (HBr.out.mono HB4.out.size))
              have HL2 := Lib.hid hbk2
              have hb28 : Bf2.length ≤ 8 := by omega
              have HL28 := Lib.hid hb28
              by_cases hk2 : k2 < nb
              · have hne : Bf2 ≠ [] := fun e => by rw [e] at hbk2; simp at hbk2; omega
                have HNE := Lib.hid hne
                clear hbk2 hb28 hne
                go_wp2_with fail
                refine (undo_all w4.heap.size D uv2 p t X0 X2 U2 Bf2 wr HD2.out HL28.out HSM'.out.1 HSM'.out.2).mono ?_
                rintro e w7 ⟨b7, uv7, X7, U7, Bf7, rfl, hd7, ⟨hk7, -⟩, ho7⟩
                rcases ho7 with ⟨-, h, -⟩ | ⟨rfl, h7⟩
                · exact absurd h HNE.out
                · have HD7 := Lib.hid hd7
                  have HB7 := Lib.hid (HBr.out.trans hk7.1)
                  have HN7 : Hid (Bf7.length + (k2 + 1) = nb) := Lib.hid (by have := HL2.out; rw [h7, List.length_append] at this; simp at this; omega)
                  clear hd7 hk7 h7
                  go_wp2
                  go_roundw
                  case rel => exact ⟨k2 + 1, uv7, X7, U7, Bf7, by go_num, HD7, HN7.out, HB7⟩
                  case measure => simp [intOf]; omega
              · obtain rfl : Bf2 = [] := List.eq_nil_of_length_eq_zero (by omega)
                have HU2 : Hid (U2 = []) := Lib.hid (HD2.out.2.1.empty.2 rfl)
                have HX2 : Hid (X2 = X0) := Lib.hid HD2.out.2.2.2.same
                obtain rfl := HU2.out
                obtain rfl := HX2.out
                have HKc := Lib.hid (HK4.out.after HBr.out)
                have CU := Lib.hid (fun (u : World) (hu : Below wr.heap.size wr u) => undo_none w4.heap.size D uv2 p t X2 u (HD2.out.1.after hu))
                have CT := fun (u : World) (hu : Below wr.heap.size wr u) => docT_any w4.heap.size D uv2 p t X2 [] u (HD2.out.1.after hu) (by rw [HN.out]; omega)
                unfold RetInts at CT
                rw [HN.out] at CT
                replace CT := Lib.hid CT
                have HRc := Lib.hid ((HRX.out.below HBWr.out).lt)
                clear hbk2 hb28
                go_upto_region 19 with fail
                refine wp_region_tree (fun w' => Blk w' w.heap.size 33 (startC x p y t At n ct)) (.float 0 (.one 1 (.float 2 (.float 3 (.float 4 (.float 6 (.float 7 (.one 5 (.one 8 (.float 9 (.float 10 (.one 11 (.float 12 (.float 13 .done)))))))))))))) (by kernel_rfl) (by kernel_rfl) (fun _ _ d _ _ h => by cases d <;> exact h) HKc.out.drew ?_
                repeat (first
                  | (refine wpTr_fskip (by simp only [List.getElem?_toArray, List.getElem?_cons_zero]; rfl) (by rfl) ?_
                     simp only [Act.put, List.setIfInBounds_toArray, List.set_cons_zero, List.set_cons_succ])
                  | (refine wpTr_float (v := ?_) (by simp only [List.getElem?_toArray, List.getElem?_cons_zero]; rfl) (by rfl) (fun w' hS => ?_) ?_
                     rotate_left
                     ((obtain ⟨⟨b0', b1'⟩, ⟨b2', b3', b4', b5', b6', b7'⟩, b8', bl'⟩ := start_cells hS); go_simp; first | done | rfl)
                     simp only [Act.put, List.setIfInBounds_toArray, List.set_cons_zero, List.set_cons_succ]))
                refine wpTr_one ?_
                refine stepTr_K (by simp only [List.getElem?_toArray, List.getElem?_cons_zero, List.getElem?_cons_succ]; rfl) (by rfl) (fun K hK => ?_)
                go_simp
                refine (CU.out wr.drew (Below.refl _ _).drew).mono ?_
                rintro e w8 ⟨rfl, hb8'⟩
                have HB8 : Hid (Below wr.heap.size wr w8) := (Below.refl _ _).drew.trans hb8'
                refine hK.out _ _ (HKc.out.after HB8.out) ?_
                clear hK K hb8'
                try simp only [Act.put, List.setIfInBounds_toArray, List.set_cons_zero, List.set_cons_succ]
                repeat (first
                  | (refine wpTr_fskip (by simp only [List.getElem?_toArray, List.getElem?_cons_zero, List.getElem?_cons_succ]; rfl) (by rfl) ?_
                     simp only [Act.put, List.setIfInBounds_toArray, List.set_cons_zero, List.set_cons_succ])
                  | (refine wpTr_float (v := ?_) (by simp only [List.getElem?_toArray, List.getElem?_cons_zero, List.getElem?_cons_succ]; rfl) (by rfl) (fun w' hS => ?_) ?_
                     rotate_left
                     ((obtain ⟨⟨b0', b1'⟩, ⟨b2', b3', b4', b5', b6', b7'⟩, b8', bl'⟩ := start_cells hS); go_simp; first | done | rfl)
                     simp only [Act.put, List.setIfInBounds_toArray, List.set_cons_zero, List.set_cons_succ]))
                refine wpTr_one ?_
                refine stepTr_K (by simp only [List.getElem?_toArray, List.getElem?_cons_zero, List.getElem?_cons_succ]; rfl) (by rfl) (fun K hK => ?_)
                go_simp
                refine (CT.out w8 HB8.out).mono ?_
                rintro e w9 ⟨A9, c9, rfl, -, -, hr9, -, hb9⟩
                have HB9 := Lib.hid (HB8.out.trans (hb9.mono HB8.out.size))
                have HR9 := Lib.hid hr9
                refine hK.out _ _ (HKc.out.after HB9.out) ?_
                clear hK K hr9 hb9
                try simp only [Act.put, List.setIfInBounds_toArray, List.set_cons_zero, List.set_cons_succ]
                refine wpTr_one ?_
                refine stepTr_K (by simp only [List.getElem?_toArray, List.getElem?_cons_zero, List.getElem?_cons_succ]; rfl) (by rfl) (fun K hK => ?_)
                go_simp
                refine (eql_any A9 At c9 ct n n X2 X2 w9 HR9.out (HRc.out.below HB9.out).lt HN.out HN.out (by omega) (by omega) true (by simp)).mono ?_
                rintro e w10 ⟨rfl, hb10⟩
                have HB10 := Lib.hid (HB9.out.trans (hb10.mono HB9.out.size))
                refine hK.out _ _ (HKc.out.after HB10.out) ?_
                clear hK K hb10
                try simp only [Act.put, List.setIfInBounds_toArray, List.set_cons_zero, List.set_cons_succ]
                repeat (first
                  | (refine wpTr_fskip (by simp only [List.getElem?_toArray, List.getElem?_cons_zero, List.getElem?_cons_succ]; rfl) (by rfl) ?_
                     simp only [Act.put, List.setIfInBounds_toArray, List.set_cons_zero, List.set_cons_succ])
                  | (refine wpTr_float (v := ?_) (by simp only [List.getElem?_toArray, List.getElem?_cons_zero, List.getElem?_cons_succ]; rfl) (by rfl) (fun w' hS => ?_) ?_
                     rotate_left
                     ((skip); go_simp; first | done | rfl)
                     simp only [Act.put, List.setIfInBounds_toArray, List.set_cons_zero, List.set_cons_succ]))
                refine wpTr_one ?_
                refine stepTr_K (by simp only [List.getElem?_toArray, List.getElem?_cons_zero, List.getElem?_cons_succ]; rfl) (by rfl) (fun K hK => ?_)
                go_simp
                refine (alive54_any w10).mono ?_
                rintro e w11 ⟨rfl, hb11⟩
                have HB11 := Lib.hid (HB10.out.trans (hb11.mono HB10.out.size))
                refine hK.out _ _ (HKc.out.after HB11.out) ?_
                clear hK K hb11
                try simp only [Act.put, List.setIfInBounds_toArray, List.set_cons_zero, List.set_cons_succ]
                repeat (first
                  | (refine wpTr_fskip (by simp only [List.getElem?_toArray, List.getElem?_cons_zero, List.getElem?_cons_succ]; rfl) (by rfl) ?_
                     simp only [Act.put, List.setIfInBounds_toArray, List.set_cons_zero, List.set_cons_succ])
                  | (refine wpTr_float (v := ?_) (by simp only [List.getElem?_toArray, List.getElem?_cons_zero, List.getElem?_cons_succ]; rfl) (by rfl) (fun w' hS => ?_) ?_
                     rotate_left
                     ((skip); go_simp; first | done | rfl)
                     simp only [Act.put, List.setIfInBounds_toArray, List.set_cons_zero, List.set_cons_succ]))
                refine wpTr_done ?_
                have HBF := Lib.hid (HBWr.out.trans (HB11.out.mono HBWr.out.size))
                go_wp2
                go_ret
                exact ⟨rfl, HBF.out⟩
theorem own : ownKnob Try.prog.godebug = none := by kernel_rfl
theorem laidOut : laidOutB Try.prog = true := by kernel_rfl
set_option maxRecDepth 100000 in
theorem lifted (os : Os) (started : os.Started) (H : Type) (enc : TypeId × Value → H) :
    ReturnsInHanded {} Try.checked os 5 .any (Rows.incbreakUndoesSpec.pre6 enc Try.prog Try.f5 Rows.incbreakUndoesRow.domain false) (Rows.incbreakUndoesSpec.post enc Try.prog Try.f5 false true false false) := by
  refine returnsInHanded_of_change (C := Try.checked) own started (by kernel_rfl) Try.func5
    (ChangeSpec.witness6 (enc := enc) (C := Try.checked) false ⟨#[], #[.agg #[.slice none 0 0, .slice none 0 0, .slice none 0 0, .slice none 0 0, .slice none 0 0, .slice none 0 0, .slice none 0 0, .slice none 0 0, .slice none 0 0], .slice none 0 0], []⟩ 8 (by kernel_rfl) (by kernel_rfl) (by kernel_rfl) (by kernel_rfl)) ?_
  intro W base args ds gs before hval0 hW hcnd _
  have hval : ∀ (j : Nat) t v, Try.f5.params[j]? = some t → args[j]? = some v → Value.okWide Try.prog W .any base t v := hval0
  have hW' := hW
  obtain ⟨p, q, hA0, hV, rfl, hfz, hnd⟩ := hW
  have hA : DataW.TrodAll enc Try.prog W 0 (fun _ => true) true Try.f5.params.toList args.toList ds p := hA0
  rw [Try.params5] at hA hval
  obtain ⟨v0, v1, d0, d1, p0, p1, rfl, rfl, rfl, h0, h1⟩ := trodAll_two hA
  obtain ⟨rfl, rfl⟩ := trodVars_none hV
  obtain ⟨xp0, q0, y0, t0, A0, c0, X0, rfl, hP0, hT0, hc0, hm0, hR0⟩ := open_start54 (hval 0 33 v0 rfl rfl) h0
  obtain ⟨ad1, le1, ca1, rfl⟩ := okWide_slice Try.underlying34 (hval 1 34 v1 rfl rfl)
  obtain ⟨fu1, hf1⟩ := h1
  obtain ⟨A1, c1, xs1, hv1, hc1, hm1, hR1⟩ := open_steps (v := .slice ad1 le1 ca1) hf1
  injection hv1 with ea1 eb1 ec1
  subst ea1 eb1 ec1
  refine (walk W xp0 q0 hP0 y0 t0 hT0 A0 c0 X0 hc0 hm0 hR0 ad1 ca1 xs1 hc1 hm1 hR1).mono fun e W' ⟨he, hb⟩ => ⟨_, he, ?_⟩
  exact law_post laidOut (by rw [Try.params5]; exact of_decide_eq_true (by kernel_rfl)) rfl rfl Try.underlying4 hW' rfl hb
theorem holds : Rows.IncbreakUndoesSaid :=
  OpenClaim.holds_of_wide 5 Try.f5 rfl rfl rfl rfl rfl rfl rfl ⟨rfl, rfl, rfl, rfl, rfl⟩ rfl rfl rfl rfl rfl (by kernel_rfl) Try.func5 (by kernel_rfl)
    (of_decide_eq_true (by kernel_rfl)) (by unfold Func.isWrapper; first | (rw [if_pos (by decide +kernel)]; kernel_rfl) | (rw [if_neg (by decide +kernel)]; exact ⟨rfl, rfl⟩))
    (fun os started H enc _ => lifted os started H enc)
end Go.Proofs.Ytkpblieanejmeaa.LUndoes
namespace Go.Proofs.Ytkpblieanejmeaa
theorem incbreakUndoes_holds : Rows.IncbreakUndoesSaid := LUndoes.holds
end Go.Proofs.Ytkpblieanejmeaa
