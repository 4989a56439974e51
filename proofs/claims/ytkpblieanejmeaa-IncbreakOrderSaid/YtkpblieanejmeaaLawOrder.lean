/-
  IncbreakOrder: for every input the law returns true, and its arguments read as before. No condition.
-/
import Derived.Test.YtkpblieanejmeaaRows
import Derived.Test.YtkpblieanejmeaaLift
import Derived.Test.YtkpblieanejmeaaIj0
import Derived.Test.YtkpblieanejmeaaIe0
import Derived.BigQuiet
namespace Go.Proofs.Ytkpblieanejmeaa.LOrder
open Go.ChangeShapes Go.WideShapes Go.ChangeAt Go.RowKit Go.UtYtkpblieanejmeaa Go.Joins
set_option maxRecDepth 100000 in
set_option maxHeartbeats 4000000 in
theorem walk (w : World) (x : PA) (p : PR) (hP : PrAt w w.heap.size x p) (y : TA) (t : BT) (hT : TabAt w w.heap.size y t) (At : Option Addr) (ct : Nat) (X0 : List Int) (_hct : X0.length ≤ ct) (_hmt : ct ≤ maxLen) (hR : Row w w.heap.size At (ints X0)) (A : Option Addr) (c : Nat) (l : List St) (_hc : l.length ≤ c) (_hm : c ≤ maxLen) (hS : StepsAt w w.heap.size A l) :
    Calls Try.prog 7 #[.agg (startC x p y t At X0.length ct), .slice A l.length c] w fun e w' => e = .returned (.bool true) ∧ Below w.heap.size w w' := by
  obtain ⟨n, hn⟩ : ∃ n, X0.length = n := ⟨_, rfl⟩
  obtain ⟨nl, hnl⟩ : ∃ n, l.length = n := ⟨_, rfl⟩
  have CF := fun (u : World) (hu : Below w.heap.size w u) (v : Bool) (hv : v = true ↔ Few54 p t n l) => few54_any x p y t At n ct A nl c l u (hT.below hu).lt (hS.below hu).lt hnl v hv
  have CP := fun (u : World) (hu : Below w.heap.size w u) (hs : p.spans.length ≤ 16) (v : Bool) (hv : v = true ↔ validP p) => rvalidP_any x p u (hP.below hu).lt (by omega) v hv
  have CV := fun (u : World) (hu : Below w.heap.size w u) (hs : smT t) (v : Bool) (hv : v = true ↔ validT t) => valid29_any y t u (hT.below hu).lt ⟨by have := hs.1.1; omega, by have := hs.1.2; omega⟩ v hv
  have CN := fun (u : World) (hu : Below w.heap.size w u) (hps : p.names.length ≤ 300 ∧ p.spans.length ≤ 16) (hs : smT t) (hn20 : n ≤ 20) => new_any x p y t At ct n X0 u (hP.below hu).lt (hT.below hu).lt (hR.below hu).lt hn (by omega) hs (by omega)
  unfold startC at CF
  unfold PA.val at CP CN
  unfold TA.val at CV CN
  unfold RetNew at CN
  replace CF := Lib.hid CF
  replace CP := Lib.hid CP
  replace CV := Lib.hid CV
  replace CN := Lib.hid CN
  have HPR := Lib.hid hP
  have HTB := Lib.hid hT
  have HRX := Lib.hid hR
  have HSA := Lib.hid hS
  have HN := Lib.hid hn
  have HNL := Lib.hid hnl
  obtain ⟨w1, hw1, HB1, HK1⟩ := boxV w 33 (startC x p y t At n ct)
  obtain ⟨⟨a0, a1⟩, ⟨a2, a3, a4, a5, a6, a7⟩, a8, al⟩ := start_cells HK1.out
  unfold startC at hw1 ⊢
  rw [hn, hnl]
  clear hP hT hR hS hn hnl
  by_cases hf : Few54 p t n l
  case neg =>
    have CF1 := Lib.hid (CF.out w1 HB1.out false ⟨fun h => (by cases h), fun h => absurd h hf⟩)
    clear CF CP CV CN hf
    go_enter Try.func7, Try.ntmps7
    go_upto_region 1 with fail
    rw [← hw1]
    clear hw1
    go_wp2_with fail
    refine (CF1.out).mono ?_
    rintro e w2 ⟨rfl, hb2⟩
    have HB2 := Lib.hid (HB1.out.trans (hb2.mono HB1.out.size))
    have HK2 := Lib.hid (HK1.out.after hb2)
    clear hb2
    clear a0 a1 a2 a3 a4 a5 a6 a7 a8 al
    go_wp2_with fail
    refine (alive54_any _).mono ?_
    rintro e w3 ⟨rfl, hb3⟩
    have HB3 := Lib.hid (HB2.out.trans (hb3.mono HB2.out.size))
    clear hb3
    go_wp2
    go_ret
    exact ⟨rfl, HB3.out⟩
  case pos =>
    have CF1 := Lib.hid (CF.out w1 HB1.out true ⟨fun _ => hf, fun _ => rfl⟩)
    have HF := Lib.hid hf
    have hps := hf.2.1
    have hsm := hf.2.2.1
    have hn20 := hf.2.2.2.1
    have hl8 : nl ≤ 8 := by have := hf.1; rw [HNL.out] at this; exact this
    clear hf CF
    by_cases hvp : validP p
    case neg =>
      have HVP := Lib.hid hvp
      have HPS := Lib.hid hps
      clear hvp hps hsm CV CN
      go_enter Try.func7, Try.ntmps7
      go_upto_region 1 with fail
      rw [← hw1]
      clear hw1
      go_wp2_with fail
      refine (CF1.out).mono ?_
      rintro e w2 ⟨rfl, hb2⟩
      have HB2 := Lib.hid (HB1.out.trans (hb2.mono HB1.out.size))
      have HK2 := Lib.hid (HK1.out.after hb2)
      clear hb2
      clear a0 a1 a2 a3 a4 a5 a6 a7 a8 al
      obtain ⟨⟨a0, a1⟩, ⟨a2, a3, a4, a5, a6, a7⟩, a8, al⟩ := start_cells HK2.out
      go_wp2_with fail
      refine (CP.out w2 HB2.out HPS.out.2 false ⟨fun h => (by cases h), fun h => absurd h HVP.out⟩).mono ?_
      rintro e w3 ⟨rfl, hb3⟩
      have HB3 := Lib.hid (HB2.out.trans (hb3.mono HB2.out.size))
      have HK3 := Lib.hid (HK2.out.after hb3)
      clear hb3
      clear a0 a1 a2 a3 a4 a5 a6 a7 a8 al
      go_wp2_with fail
      refine (alive54_any _).mono ?_
      rintro e w4 ⟨rfl, hb4⟩
      have HB4 := Lib.hid (HB3.out.trans (hb4.mono HB3.out.size))
      clear hb4
      go_wp2
      go_ret
      exact ⟨rfl, HB4.out⟩
    case pos =>
      have HVP := Lib.hid hvp
      have HPS := Lib.hid hps
      have HSM := Lib.hid hsm
      clear hvp hps hsm
      by_cases hvt : validT t
      case neg =>
        have HVT := Lib.hid hvt
        clear hvt CN
        go_enter Try.func7, Try.ntmps7
        go_upto_region 1 with fail
        rw [← hw1]
        clear hw1
        go_wp2_with fail
        refine (CF1.out).mono ?_
        rintro e w2 ⟨rfl, hb2⟩
        have HB2 := Lib.hid (HB1.out.trans (hb2.mono HB1.out.size))
        have HK2 := Lib.hid (HK1.out.after hb2)
        clear hb2
        clear a0 a1 a2 a3 a4 a5 a6 a7 a8 al
        obtain ⟨⟨a0, a1⟩, ⟨a2, a3, a4, a5, a6, a7⟩, a8, al⟩ := start_cells HK2.out
        go_wp2_with fail
        refine (CP.out w2 HB2.out HPS.out.2 true ⟨fun _ => HVP.out, fun _ => rfl⟩).mono ?_
        rintro e w3 ⟨rfl, hb3⟩
        have HB3 := Lib.hid (HB2.out.trans (hb3.mono HB2.out.size))
        have HK3 := Lib.hid (HK2.out.after hb3)
        clear hb3
        clear a0 a1 a2 a3 a4 a5 a6 a7 a8 al
        obtain ⟨⟨a0, a1⟩, ⟨a2, a3, a4, a5, a6, a7⟩, a8, al⟩ := start_cells HK3.out
        go_wp2_with fail
        refine (CV.out w3 HB3.out HSM.out false ⟨fun h => (by cases h), fun h => absurd h HVT.out⟩).mono ?_
        rintro e w4 ⟨rfl, hb4⟩
        have HB4 := Lib.hid (HB3.out.trans (hb4.mono HB3.out.size))
        have HK4 := Lib.hid (HK3.out.after hb4)
        clear hb4
        clear a0 a1 a2 a3 a4 a5 a6 a7 a8 al
        go_wp2_with fail
        refine (alive54_any _).mono ?_
        rintro e w5 ⟨rfl, hb5⟩
        have HB5 := Lib.hid (HB4.out.trans (hb5.mono HB4.out.size))
        clear hb5
        go_wp2
        go_ret
        exact ⟨rfl, HB5.out⟩
      case pos =>
        have HVT := Lib.hid hvt
        clear hvt
        go_enter Try.func7, Try.ntmps7
        go_upto_region 1 with fail
        rw [← hw1]
        clear hw1
        go_wp2_with fail
        refine (CF1.out).mono ?_
        rintro e w2 ⟨rfl, hb2⟩
        have HB2 := Lib.hid (HB1.out.trans (hb2.mono HB1.out.size))
        have HK2 := Lib.hid (HK1.out.after hb2)
        clear hb2
        clear a0 a1 a2 a3 a4 a5 a6 a7 a8 al
        obtain ⟨⟨a0, a1⟩, ⟨a2, a3, a4, a5, a6, a7⟩, a8, al⟩ := start_cells HK2.out
        go_wp2_with fail
        refine (CP.out w2 HB2.out HPS.out.2 true ⟨fun _ => HVP.out, fun _ => rfl⟩).mono ?_
        rintro e w3 ⟨rfl, hb3⟩
        have HB3 := Lib.hid (HB2.out.trans (hb3.mono HB2.out.size))
        have HK3 := Lib.hid (HK2.out.after hb3)
        clear hb3
        clear a0 a1 a2 a3 a4 a5 a6 a7 a8 al
        obtain ⟨⟨a0, a1⟩, ⟨a2, a3, a4, a5, a6, a7⟩, a8, al⟩ := start_cells HK3.out
        go_wp2_with fail
        refine (CV.out w3 HB3.out HSM.out true ⟨fun _ => HVT.out, fun _ => rfl⟩).mono ?_
        rintro e w4 ⟨rfl, hb4⟩
        have HB4 := Lib.hid (HB3.out.trans (hb4.mono HB3.out.size))
        have HK4 := Lib.hid (HK3.out.after hb4)
        clear hb4
        clear a0 a1 a2 a3 a4 a5 a6 a7 a8 al
        obtain ⟨⟨a0, a1⟩, ⟨a2, a3, a4, a5, a6, a7⟩, a8, al⟩ := start_cells HK4.out
        go_wp2_with fail
        refine (CN.out w4 HB4.out HPS.out HSM.out hn20).mono ?_
        rintro e w5 ⟨h5, hb5⟩
        obtain ⟨D, rfl, hd5⟩ : ∃ D, e = .returned (.tuple #[.pointer (some ⟨D, 0, none⟩), .int .i64 0]) ∧ DocAt w5 w4.heap.size D (.slice none 0 0) p t X0 [] := by
          rcases h5 with ⟨h, -⟩ | ⟨-, D, h1, h2⟩
          · exact absurd ⟨HVP.out, HVT.out⟩ h
          · exact ⟨D, h1, h2⟩
        have HB45 := Lib.hid hb5
        have HB5 := Lib.hid (HB4.out.trans (hb5.mono HB4.out.size))
        have HK5 := Lib.hid (HK4.out.after hb5)
        have HD5 : Hid (Doc w5 w4.heap.size D (.slice none 0 0) p t X0 X0 [] []) := Lib.hid ⟨hd5, Hist.nil _, Short.nil (by rw [HN.out]; exact hn20), First.nil _⟩
        have HSM' : Hid (p.spans.length ≤ 100000 ∧ t.cls.length ≤ 1000 ∧ t.act.length ≤ 1000) := Lib.hid ⟨by have := HPS.out.2; omega, by have := HSM.out.1.1; omega, by have := HSM.out.1.2; omega⟩
        have HS4 := Lib.hid ((HSA.out.below HB4.out).lt)
        clear hb5 h5 hd5 CN CP CV CF1
        clear a0 a1 a2 a3 a4 a5 a6 a7 a8 al
        go_wp2
        go_loopw [48] (fun i wr => ∃ (k : Nat) (uv : Value) (X : List Int) (U : List EdN) (Bf : List (List Int)), k ≤ nl ∧ i = .int .i64 (k : Int) ∧ Hid (Doc wr w4.heap.size D uv p t X0 X U Bf) ∧ Bf.length ≤ k ∧ Hid (Below w4.heap.size w4 wr)) (fun i _ => nl - (intOf i).toNat)
        case atStart => exact ⟨0, .slice none 0 0, X0, [], [], by omega, rfl, HD5, Nat.le_refl _, HB45⟩
        case round =>
          obtain ⟨k, uv, X, U, Bf, hk, rfl, HD, hbk, HB⟩ := hrel
          have HBW := Lib.hid (HB4.out.trans (HB.out.mono HB4.out.size))
          by_cases hkn : k < nl
          ·
            obtain ⟨b, o, s, A', c', hA, hb, hs, ⟨c0, c1, c2, c3, c4⟩, ⟨hic, hicm⟩, hri⟩ := (HS4.out.below HB.out).at_ (k := k) (by rw [HNL.out]; exact hkn)
            subst hA
            have hbl : b < wr.heap.size := by have := HB.out.size; omega
            obtain ⟨ni, hni⟩ : ∃ z, s.ins.length = z := ⟨_, rfl⟩
            rw [hni] at c2 hic
            have hni40 : ni ≤ 40 := by rw [← hni]; exact HF.out.2.2.2.2 s (List.mem_of_getElem? hs.out)
            obtain ⟨w6, hw6, HB6', HK6⟩ := boxV wr 48 #[.int .i64 s.x, .int .i64 s.y, .slice A' ni c', .bool s.un, .int .i64 s.pos]
            have HB6 := Lib.hid (HB.out.trans (HB6'.out.mono HB.out.size))
            have HD6 := Lib.hid (HD.out.after HB6'.out)
            have HRI := Lib.hid (hri.out.below (HB6'.out.mono HB.out.size))
            obtain ⟨g, hg⟩ : ∃ z, z = wr.heap.size := ⟨_, rfl⟩
            rw [← hg] at HK6
            have HGG := Lib.hid hg
            have HNI := Lib.hid hni
            have HIC := Lib.hid (And.intro hic hicm)
            have HSL := Lib.hid hs.out
            clear hni hic hicm hri hs
            have e0 := HK6.out.cell 0
            have e1 := HK6.out.cell 1
            have e2 := HK6.out.cell 2
            have e3 := HK6.out.cell 3
            have e4 := HK6.out.cell 4
            have el := HK6.out.lt
            simp only [List.getElem?_toArray, List.getElem?_cons_zero, List.getElem?_cons_succ] at e0 e1 e2 e3 e4
            go_upto_region 9 with fail
            rw [← hw6, ← hg]
            clear hw6 hg c0 c1 c2 c3 c4
            go_wp2_with fail
            refine (edit_all s.x s.y w4.heap.size D uv p t X0 X U Bf s.ins A' ni c' w6 HD6.out HRI.out HNI.out hni40 HIC.out.1 HIC.out.2 (by omega) HSM'.out.1 HSM'.out.2).mono ?_
            rintro e w7 ⟨lo, hi, code, uv7, X7, U7, Bf7, rfl, hd7, ⟨hk7, -⟩, ho7⟩
            have HD7 := Lib.hid hd7
            have HB7 := Lib.hid (HB6.out.trans hk7.1)
            have hl7 := ho7.len
            clear hd7 hk7 ho7 e0 e1 e2 e3 e4 el
            go_wp2
            go_roundw
            case rel => exact ⟨k + 1, uv7, X7, U7, Bf7, by omega, by go_num, HD7, by omega, HB7⟩
            case measure => simp [intOf]; omega
          · obtain ⟨wl, hwl⟩ : ∃ z, z = wr := ⟨_, rfl⟩
            rw [← hwl] at HD HB HBW ⊢
            clear hwl
            have hx7 := HD.out.len (by omega)
            have HKc := Lib.hid (HK4.out.after HB.out)
            obtain ⟨nx, hnx⟩ : ∃ z, X.length = z := ⟨_, rfl⟩
            obtain ⟨bb, hbb⟩ : ∃ z, bndL p t X = z := ⟨_, rfl⟩
            obtain ⟨N, hN⟩ : ∃ z, bb.length = z := ⟨_, rfl⟩
            have hNl := bnd_len p t X
            rw [hbb, hN, hnx] at hNl
            rw [hnx] at hx7
            have HPc := Lib.hid ((HPR.out.below HBW.out).lt)
            have HTc := Lib.hid ((HTB.out.below HBW.out).lt)
            have CT := fun (u : World) (hu : Below wl.heap.size wl u) => docT_any w4.heap.size D uv p t X U u (HD.out.1.after hu) (by omega)
            have CM := fun (u : World) (hu : Below wl.heap.size wl u) (A : Option Addr) (c : Nat) (hr : Row u u.heap.size A (ints X)) => new_any x p y t A c nx X u (HPc.out.below hu).lt (HTc.out.below hu).lt hr hnx (by have := HPS.out; omega) HSM.out (by omega)
            unfold RetInts at CT
            unfold RetNew PA.val TA.val at CM
            rw [hnx] at CT
            have HNX := Lib.hid hnx
            have HBB := Lib.hid hbb
            have HNN := Lib.hid hN
            replace CT := Lib.hid CT
            replace CM := Lib.hid CM
            clear hnx hbb hN
            go_upto_region 11 with fail
            refine wp_region_tree (fun w' => Blk w' w.heap.size 33 (startC x p y t At n ct)) (.float 0 (.float 1 (.float 2 (.float 3 (.float 4 (.one 5 (.one 6 (.float 7 (.float 8 (.float 9 (.float 10 (.float 11 .done)))))))))))) (by kernel_rfl) (by kernel_rfl) (fun _ _ d _ _ h => by cases d <;> exact h) HKc.out.drew ?_
            repeat (first
              | (refine wpTr_fskip (by simp only [List.getElem?_toArray, List.getElem?_cons_zero, List.getElem?_cons_succ]; rfl) (by rfl) ?_
                 simp only [Act.put, List.setIfInBounds_toArray, List.set_cons_zero, List.set_cons_succ])
              | (refine wpTr_float (v := ?_) (by simp only [List.getElem?_toArray, List.getElem?_cons_zero, List.getElem?_cons_succ]; rfl) (by rfl) (fun w' hS => ?_) ?_
                 rotate_left
                 ((obtain ⟨⟨b0', b1'⟩, ⟨b2', b3', b4', b5', b6', b7'⟩, b8', bl'⟩ := start_cells hS); go_simp; first | done | rfl)
                 simp only [Act.put, List.setIfInBounds_toArray, List.set_cons_zero, List.set_cons_succ]))
            refine wpTr_one ?_
            refine stepTr_K (by simp only [List.getElem?_toArray, List.getElem?_cons_zero, List.getElem?_cons_succ]; rfl) (by rfl) (fun K hK => ?_)
            go_simp
            refine (CT.out wl.drew (Below.refl _ _).drew).mono ?_
            rintro e w8 ⟨A8, c8, rfl, -, -, hr8, -, hb8⟩
            have HB8 : Hid (Below wl.heap.size wl w8) := (Below.refl _ _).drew.trans hb8
            have HR8 := Lib.hid hr8
            refine hK.out _ _ (HKc.out.after HB8.out) ?_
            clear hK K hr8 hb8
            try simp only [Act.put, List.setIfInBounds_toArray, List.set_cons_zero, List.set_cons_succ]
            refine wpTr_one ?_
            refine stepTr_K (by simp only [List.getElem?_toArray, List.getElem?_cons_zero, List.getElem?_cons_succ]; rfl) (by rfl) (fun K hK => ?_)
            go_simp
            refine (CM.out w8 HB8.out A8 c8 HR8.out).mono ?_
            rintro e w9 ⟨h9, hb9⟩
            obtain ⟨D2, rfl, hd9⟩ : ∃ D, e = .returned (.tuple #[.pointer (some ⟨D, 0, none⟩), .int .i64 0]) ∧ DocAt w9 w8.heap.size D (.slice none 0 0) p t X [] := by
              rcases h9 with ⟨h, -⟩ | ⟨-, D, h1, h2⟩
              · exact absurd ⟨HVP.out, HVT.out⟩ h
              · exact ⟨D, h1, h2⟩
            have HB9 := Lib.hid (HB8.out.trans (hb9.mono HB8.out.size))
            have HD9 := Lib.hid hd9
            have HE9 := Lib.hid (HD.out.1.after HB9.out)
            refine hK.out _ _ (HKc.out.after HB9.out) ?_
            clear hK K hb9 h9 hd9
            try simp only [Act.put, List.setIfInBounds_toArray, List.set_cons_zero, List.set_cons_succ]
            repeat (first
              | (refine wpTr_fskip (by simp only [List.getElem?_toArray, List.getElem?_cons_zero, List.getElem?_cons_succ]; rfl) (by rfl) ?_
                 simp only [Act.put, List.setIfInBounds_toArray, List.set_cons_zero, List.set_cons_succ])
              | (refine wpTr_float (v := ?_) (by simp only [List.getElem?_toArray, List.getElem?_cons_zero, List.getElem?_cons_succ]; rfl) (by rfl) (fun w' hS => ?_) ?_
                 rotate_left
                 ((skip); go_simp; first | done | rfl)
                 simp only [Act.put, List.setIfInBounds_toArray, List.set_cons_zero, List.set_cons_succ]))
            refine wpTr_done ?_
            have CB1 := docB_any w8.heap.size D2 _ p t X [] w9 HD9.out (by rw [HNX.out]; omega)
            unfold RetInts at CB1
            rw [HBB.out, HNN.out] at CB1
            replace CB1 := Lib.hid CB1
            go_wp2_with fail
            refine CB1.out.mono ?_
            rintro e w10 ⟨A10, c10, rfl, -, -, hr10, -, hb10⟩
            have HB10 := Lib.hid (HB9.out.trans (hb10.mono HB9.out.size))
            have HD10 := Lib.hid (HD9.out.after hb10)
            have HE10 := Lib.hid (HE9.out.after hb10)
            have HR10 := Lib.hid hr10
            have CB2 := docB_any w4.heap.size D _ p t X U w10 HE10.out (by rw [HNX.out]; omega)
            unfold RetInts at CB2
            rw [HBB.out, HNN.out] at CB2
            replace CB2 := Lib.hid CB2
            clear hr10 hb10 CB1
            go_wp2_with fail
            refine CB2.out.mono ?_
            rintro e w11 ⟨A11, c11, rfl, -, -, hr11, -, hb11⟩
            have HB11 := Lib.hid (HB10.out.trans (hb11.mono HB10.out.size))
            have HD11 := Lib.hid (HD10.out.after hb11)
            have HE11 := Lib.hid (HE10.out.after hb11)
            have CE := Lib.hid (eql_any A10 A11 c10 c11 N N bb bb w11 (HR10.out.below hb11).lt hr11 HNN.out HNN.out (by omega) (by omega) true (by simp))
            clear hr11 hb11 CB2
            go_wp2_with fail
            refine CE.out.mono ?_
            rintro e w12 ⟨rfl, hb12⟩
            have HB12 := Lib.hid (HB11.out.trans (hb12.mono HB11.out.size))
            have HD12 := Lib.hid (HD11.out.after hb12)
            have HE12 := Lib.hid (HE11.out.after hb12)
            clear hb12 CE
            have HBC := Lib.hid (HB.out.trans (HB12.out.mono HB.out.size))
            have HS12 := Lib.hid ((HS4.out.below HBC.out).lt)
            have HBW12 := Lib.hid (HBW.out.trans (HB12.out.mono HBW.out.size))
            clear hkn hk hbk
            go_wp2
            go_loopw [83] (fun i wr => ∃ k : Nat, k ≤ nl ∧ i = .int .i64 (k : Int) ∧ Hid (Below w12.heap.size w12 wr)) (fun i _ => nl - (intOf i).toNat)
            case atStart => exact ⟨0, by omega, rfl, Below.refl _ _⟩
            case round =>
              obtain ⟨k, hk, rfl, HBr⟩ := hrel
              have HBWr := Lib.hid (HBW12.out.trans (HBr.out.mono HBW12.out.size))
              by_cases hkn : k < nl
              · obtain ⟨b, o, s, A', c', hA, hb, hs, ⟨c0, c1, c2, c3, c4⟩, -, -⟩ := (HS12.out.below HBr.out).at_ (k := k) (by rw [HNL.out]; exact hkn)
                subst hA
                have hbl : b < wr.heap.size := by have := HBr.out.size; omega
                obtain ⟨ni, hni⟩ : ∃ z, s.ins.length = z := ⟨_, rfl⟩
                rw [hni] at c2
                obtain ⟨ps, hps⟩ : ∃ z, s.pos = z := ⟨_, rfl⟩
                rw [hps] at c4
                obtain ⟨w16, hw16, HB16', HK16⟩ := boxV wr 48 #[.int .i64 s.x, .int .i64 s.y, .slice A' ni c', .bool s.un, .int .i64 ps]
                have HB16 := Lib.hid (HBr.out.trans (HB16'.out.mono HBr.out.size))
                obtain ⟨g, hg⟩ : ∃ z, z = wr.heap.size := ⟨_, rfl⟩
                rw [← hg] at HK16
                obtain ⟨rn, hrn⟩ : ∃ z, nextL bb ps = z := ⟨_, rfl⟩
                obtain ⟨rp, hrp⟩ : ∃ z, prevL bb ps = z := ⟨_, rfl⟩
                have C1 := fun (u : World) (hu : Below w12.heap.size w12 u) => docN_any w8.heap.size D2 _ p t X [] ps u (HD12.out.after hu) (by rw [HNX.out]; omega)
                have C2 := fun (u : World) (hu : Below w12.heap.size w12 u) => docN_any w4.heap.size D _ p t X U ps u (HE12.out.after hu) (by rw [HNX.out]; omega)
                have C3 := fun (u : World) (hu : Below w12.heap.size w12 u) => docP_any w8.heap.size D2 _ p t X [] ps u (HD12.out.after hu) (by rw [HNX.out]; omega)
                have C4 := fun (u : World) (hu : Below w12.heap.size w12 u) => docP_any w4.heap.size D _ p t X U ps u (HE12.out.after hu) (by rw [HNX.out]; omega)
                rw [HBB.out, hrn] at C1 C2
                rw [HBB.out, hrp] at C3 C4
                replace C1 := Lib.hid C1
                replace C2 := Lib.hid C2
                replace C3 := Lib.hid C3
                replace C4 := Lib.hid C4
                have hbu : Hid (Below w12.heap.size w12 w16.drew) := Lib.hid (HB16.out.trans (((Below.refl _ _).drew).mono HB16.out.size))
                clear hni hps hrn hrp hs
                go_upto_region 17 with fail
                rw [← hw16, ← hg]
                clear hw16 hg c0 c1 c2 c3 c4
                refine wp_region_tree (fun w' => Blk w' g 48 #[.int .i64 s.x, .int .i64 s.y, .slice A' ni c', .bool s.un, .int .i64 ps]) (.float 0 (.float 1 (.float 2 (.float 4 (.float 5 (.float 6 (.one 3 (.one 7 (.float 8 (.float 9 (.float 10 (.float 11 (.float 12 (.float 14 (.float 15 (.float 16 (.one 13 (.one 17 (.float 18 (.float 19 .done)))))))))))))))))))) (by kernel_rfl) (by kernel_rfl) (fun _ _ d _ _ h => by cases d <;> exact h) HK16.out.drew ?_
                repeat (first
                  | (refine wpTr_fskip (by simp only [List.getElem?_toArray, List.getElem?_cons_zero, List.getElem?_cons_succ]; rfl) (by rfl) ?_
                     simp only [Act.put, List.setIfInBounds_toArray, List.set_cons_zero, List.set_cons_succ])
                  | (refine wpTr_float (v := ?_) (by simp only [List.getElem?_toArray, List.getElem?_cons_zero, List.getElem?_cons_succ]; rfl) (by rfl) (fun w' hS => ?_) ?_
                     rotate_left
                     ((have e4' := hS.cell 4; have el' := hS.lt; simp only [List.getElem?_toArray, List.getElem?_cons_zero, List.getElem?_cons_succ] at e4'); go_simp; first | done | rfl)
                     simp only [Act.put, List.setIfInBounds_toArray, List.set_cons_zero, List.set_cons_succ]))
                refine wpTr_one ?_
                refine stepTr_K (by simp only [List.getElem?_toArray, List.getElem?_cons_zero, List.getElem?_cons_succ]; rfl) (by rfl) (fun K hK => ?_)
                go_simp
                refine (C1.out w16.drew hbu.out).mono ?_
                rintro e wx ⟨rfl, rfl⟩
                refine hK.out _ _ HK16.out.drew ?_
                clear hK K
                try simp only [Act.put, List.setIfInBounds_toArray, List.set_cons_zero, List.set_cons_succ]
                refine wpTr_one ?_
                refine stepTr_K (by simp only [List.getElem?_toArray, List.getElem?_cons_zero, List.getElem?_cons_succ]; rfl) (by rfl) (fun K hK => ?_)
                go_simp
                refine (C2.out w16.drew hbu.out).mono ?_
                rintro e wx ⟨rfl, rfl⟩
                refine hK.out _ _ HK16.out.drew ?_
                clear hK K
                try simp only [Act.put, List.setIfInBounds_toArray, List.set_cons_zero, List.set_cons_succ]
                repeat (first
                  | (refine wpTr_fskip (by simp only [List.getElem?_toArray, List.getElem?_cons_zero, List.getElem?_cons_succ]; rfl) (by rfl) ?_
                     simp only [Act.put, List.setIfInBounds_toArray, List.set_cons_zero, List.set_cons_succ])
                  | (refine wpTr_float (v := ?_) (by simp only [List.getElem?_toArray, List.getElem?_cons_zero, List.getElem?_cons_succ]; rfl) (by rfl) (fun w' hS => ?_) ?_
                     rotate_left
                     ((have e4' := hS.cell 4; have el' := hS.lt; simp only [List.getElem?_toArray, List.getElem?_cons_zero, List.getElem?_cons_succ] at e4'); go_simp; first | done | rfl)
                     simp only [Act.put, List.setIfInBounds_toArray, List.set_cons_zero, List.set_cons_succ]))
                refine wpTr_one ?_
                refine stepTr_K (by simp only [List.getElem?_toArray, List.getElem?_cons_zero, List.getElem?_cons_succ]; rfl) (by rfl) (fun K hK => ?_)
                go_simp
                refine (C3.out w16.drew hbu.out).mono ?_
                rintro e wx ⟨rfl, rfl⟩
                refine hK.out _ _ HK16.out.drew ?_
                clear hK K
                try simp only [Act.put, List.setIfInBounds_toArray, List.set_cons_zero, List.set_cons_succ]
                refine wpTr_one ?_
                refine stepTr_K (by simp only [List.getElem?_toArray, List.getElem?_cons_zero, List.getElem?_cons_succ]; rfl) (by rfl) (fun K hK => ?_)
                go_simp
                refine (C4.out w16.drew hbu.out).mono ?_
                rintro e wx ⟨rfl, rfl⟩
                refine hK.out _ _ HK16.out.drew ?_
                clear hK K
                try simp only [Act.put, List.setIfInBounds_toArray, List.set_cons_zero, List.set_cons_succ]
                repeat (first
                  | (refine wpTr_fskip (by simp only [List.getElem?_toArray, List.getElem?_cons_zero, List.getElem?_cons_succ]; rfl) (by rfl) ?_
                     simp only [Act.put, List.setIfInBounds_toArray, List.set_cons_zero, List.set_cons_succ])
                  | (refine wpTr_float (v := ?_) (by simp only [List.getElem?_toArray, List.getElem?_cons_zero, List.getElem?_cons_succ]; rfl) (by rfl) (fun w' hS => ?_) ?_
                     rotate_left
                     ((skip); go_simp; first | done | rfl)
                     simp only [Act.put, List.setIfInBounds_toArray, List.set_cons_zero, List.set_cons_succ]))
                refine wpTr_done ?_
                go_wp2
                go_roundw
                case rel => exact ⟨k + 1, by omega, by go_num, hbu⟩
                case measure => simp [intOf]; omega
              · go_wp2_with fail
                refine (alive54_any _).mono ?_
                rintro e w20 ⟨rfl, hb20⟩
                have HB20 := Lib.hid (HBWr.out.trans (hb20.mono HBWr.out.size))
                clear hb20
                go_wp2
                go_ret
                exact ⟨rfl, HB20.out⟩
theorem own : ownKnob Try.prog.godebug = none := by kernel_rfl
theorem laidOut : laidOutB Try.prog = true := by kernel_rfl
set_option maxRecDepth 100000 in
theorem lifted (os : Os) (started : os.Started) (H : Type) (enc : TypeId × Value → H) :
    ReturnsInHanded {} Try.checked os 7 .any (Rows.incbreakOrderSpec.pre6 enc Try.prog Try.f7 Rows.incbreakOrderRow.domain false) (Rows.incbreakOrderSpec.post enc Try.prog Try.f7 false true false false) := by
  refine returnsInHanded_of_change (C := Try.checked) own started (by kernel_rfl) Try.func7
    (ChangeSpec.witness6 (enc := enc) (C := Try.checked) false ⟨#[], #[.agg #[.slice none 0 0, .slice none 0 0, .slice none 0 0, .slice none 0 0, .slice none 0 0, .slice none 0 0, .slice none 0 0, .slice none 0 0, .slice none 0 0], .slice none 0 0], []⟩ 8 (by kernel_rfl) (by kernel_rfl) (by kernel_rfl) (by kernel_rfl)) ?_
  intro W base args ds gs before hval0 hW hcnd _
  have hval : ∀ (j : Nat) t v, Try.f7.params[j]? = some t → args[j]? = some v → Value.okWide Try.prog W .any base t v := hval0
  have hW' := hW
  obtain ⟨p, q, hA0, hV, rfl, hfz, hnd⟩ := hW
  have hA : DataW.TrodAll enc Try.prog W 0 (fun _ => true) true Try.f7.params.toList args.toList ds p := hA0
  rw [Try.params7] at hA hval
  obtain ⟨v0, v1, d0, d1, p0, p1, rfl, rfl, rfl, h0, h1⟩ := trodAll_two hA
  obtain ⟨rfl, rfl⟩ := trodVars_none hV
  obtain ⟨xp0, q0, y0, t0, A0, c0, X0, rfl, hP0, hT0, hc0, hm0, hR0⟩ := open_start54 (hval 0 33 v0 rfl rfl) h0
  obtain ⟨ad1, le1, ca1, rfl⟩ := okWide_slice Try.underlying34 (hval 1 34 v1 rfl rfl)
  obtain ⟨fu1, hf1⟩ := h1
  obtain ⟨A1, c1, xs1, hv1, hc1, hm1, hR1⟩ := open_steps (v := .slice ad1 le1 ca1) hf1
  injection hv1 with ea1 eb1 ec1
  subst ea1 eb1 ec1
  refine (walk W xp0 q0 hP0 y0 t0 hT0 A0 c0 X0 hc0 hm0 hR0 ad1 ca1 xs1 hc1 hm1 hR1).mono fun e W' ⟨he, hb⟩ => ⟨_, he, ?_⟩
  exact law_post laidOut (by rw [Try.params7]; exact of_decide_eq_true (by kernel_rfl)) rfl rfl Try.underlying4 hW' rfl hb
theorem holds : Rows.IncbreakOrderSaid :=
  OpenClaim.holds_of_wide 7 Try.f7 rfl rfl rfl rfl rfl rfl rfl ⟨rfl, rfl, rfl, rfl, rfl⟩ rfl rfl rfl rfl rfl (by kernel_rfl) Try.func7 (by kernel_rfl)
    (of_decide_eq_true (by kernel_rfl)) (by unfold Func.isWrapper; first | (rw [if_pos (by decide +kernel)]; kernel_rfl) | (rw [if_neg (by decide +kernel)]; exact ⟨rfl, rfl⟩))
    (fun os started H enc _ => lifted os started H enc)
end Go.Proofs.Ytkpblieanejmeaa.LOrder
namespace Go.Proofs.Ytkpblieanejmeaa
theorem incbreakOrder_holds : Rows.IncbreakOrderSaid := LOrder.holds
end Go.Proofs.Ytkpblieanejmeaa
