/-
  IncbreakAgain: for every input the law returns true, and its arguments read as before. No condition.
-/
import Derived.Test.YtkpblieanejmeaaRows
import Derived.Test.YtkpblieanejmeaaLift
import Derived.Test.YtkpblieanejmeaaIj0
import Derived.Test.YtkpblieanejmeaaIe0
import Derived.BigQuiet
namespace Go.Proofs.Ytkpblieanejmeaa.LAgain
open Go.ChangeShapes Go.WideShapes Go.ChangeAt Go.RowKit Go.UtYtkpblieanejmeaa Go.Joins
set_option maxRecDepth 100000 in
set_option maxHeartbeats 4000000 in
theorem walk (w : World) (x : PA) (p : PR) (hP : PrAt w w.heap.size x p) (y : TA) (t : BT) (hT : TabAt w w.heap.size y t) (At : Option Addr) (ct : Nat) (X0 : List Int) (_hct : X0.length ≤ ct) (_hmt : ct ≤ maxLen) (hR : Row w w.heap.size At (ints X0)) (A : Option Addr) (c : Nat) (l : List St) (_hc : l.length ≤ c) (_hm : c ≤ maxLen) (hS : StepsAt w w.heap.size A l) :
    Calls Try.prog 4 #[.agg (startC x p y t At X0.length ct), .slice A l.length c] w fun e w' => e = .returned (.bool true) ∧ Below w.heap.size w w' := by
  obtain ⟨n, hn⟩ : ∃ n, X0.length = n := ⟨_, rfl⟩
  obtain ⟨nl, hnl⟩ : ∃ n, l.length = n := ⟨_, rfl⟩
  have CF := fun (u : World) (hu : Below w.heap.size w u) (v : Bool) (hv : v = true ↔ Few54 p t n l) => few54_any x p y t At n ct A nl c l u (hT.below hu).lt (hS.below hu).lt hnl v hv
  have CP := fun (u : World) (hu : Below w.heap.size w u) (hs : p.spans.length ≤ 16) (v : Bool) (hv : v = true ↔ validP p) => rvalidP_any x p u (hP.below hu).lt (by omega) v hv
  have CV := fun (u : World) (hu : Below w.heap.size w u) (hs : smT t) (v : Bool) (hv : v = true ↔ validT t) => valid29_any y t u (hT.below hu).lt ⟨by have := hs.1.1; omega, by have := hs.1.2; omega⟩ v hv
  have CN := fun (u : World) (hu : Below w.heap.size w u) (hps : p.names.length ≤ 300 ∧ p.spans.length ≤ 16) (hs : smT t) (hn20 : n ≤ 20) => new_any x p y t At ct n X0 u (hP.below hu).lt (hT.below hu).lt (hR.below hu).lt hn (by omega) hs (by omega)
  unfold startC at CF
  unfold PA.val at CP CN
  unfold TA.val at CV CN
  unfold RetNew at CN
  replace CF := Lib.hid CF
  replace CP := Lib.hid CP
  replace CV := Lib.hid CV
  replace CN := Lib.hid CN
  have HPR := Lib.hid hP
  have HTB := Lib.hid hT
  have HRX := Lib.hid hR
  have HSA := Lib.hid hS
  have HN := Lib.hid hn
  have HNL := Lib.hid hnl
  obtain ⟨w1, hw1, HB1, HK1⟩ := boxV w 33 (startC x p y t At n ct)
  obtain ⟨⟨a0, a1⟩, ⟨a2, a3, a4, a5, a6, a7⟩, a8, al⟩ := start_cells HK1.out
  unfold startC at hw1 ⊢
  rw [hn, hnl]
  clear hP hT hR hS hn hnl
  by_cases hf : Few54 p t n l
  case neg =>
    have CF1 := Lib.hid (CF.out w1 HB1.out false ⟨fun h => (by cases h), fun h => absurd h hf⟩)
    clear CF CP CV CN hf
    go_enter Try.func4, Try.ntmps4
    go_upto_region 1 with fail
    rw [← hw1]
    clear hw1
    go_wp2_with fail
    refine (CF1.out).mono ?_
    rintro e w2 ⟨rfl, hb2⟩
    have HB2 := Lib.hid (HB1.out.trans (hb2.mono HB1.out.size))
    have HK2 := Lib.hid (HK1.out.after hb2)
    clear hb2
    clear a0 a1 a2 a3 a4 a5 a6 a7 a8 al
    go_wp2_with fail
    refine (alive54_any _).mono ?_
    rintro e w3 ⟨rfl, hb3⟩
    have HB3 := Lib.hid (HB2.out.trans (hb3.mono HB2.out.size))
    clear hb3
    go_wp2
    go_ret
    exact ⟨rfl, HB3.out⟩
  case pos =>
    have CF1 := Lib.hid (CF.out w1 HB1.out true ⟨fun _ => hf, fun _ => rfl⟩)
    have HF := Lib.hid hf
    have hps := hf.2.1
    have hsm := hf.2.2.1
    have hn20 := hf.2.2.2.1
    have hl8 : nl ≤ 8 := by have := hf.1; rw [HNL.out] at this; exact this
    clear hf CF
    by_cases hvp : validP p
    case neg =>
      have HVP := Lib.hid hvp
      have HPS := Lib.hid hps
      clear hvp hps hsm CV CN
      go_enter Try.func4, Try.ntmps4
      go_upto_region 1 with fail
      rw [← hw1]
      clear hw1
      go_wp2_with fail
      refine (CF1.out).mono ?_
      rintro e w2 ⟨rfl, hb2⟩
      have HB2 := Lib.hid (HB1.out.trans (hb2.mono HB1.out.size))
      have HK2 := Lib.hid (HK1.out.after hb2)
      clear hb2
      clear a0 a1 a2 a3 a4 a5 a6 a7 a8 al
      obtain ⟨⟨a0, a1⟩, ⟨a2, a3, a4, a5, a6, a7⟩, a8, al⟩ := start_cells HK2.out
      go_wp2_with fail
      refine (CP.out w2 HB2.out HPS.out.2 false ⟨fun h => (by cases h), fun h => absurd h HVP.out⟩).mono ?_
      rintro e w3 ⟨rfl, hb3⟩
      have HB3 := Lib.hid (HB2.out.trans (hb3.mono HB2.out.size))
      have HK3 := Lib.hid (HK2.out.after hb3)
      clear hb3
      clear a0 a1 a2 a3 a4 a5 a6 a7 a8 al
      go_wp2_with fail
      refine (alive54_any _).mono ?_
      rintro e w4 ⟨rfl, hb4⟩
      have HB4 := Lib.hid (HB3.out.trans (hb4.mono HB3.out.size))
      clear hb4
      go_wp2
      go_ret
      exact ⟨rfl, HB4.out⟩
    case pos =>
      have HVP := Lib.hid hvp
      have HPS := Lib.hid hps
      have HSM := Lib.hid hsm
      clear hvp hps hsm
      by_cases hvt : validT t
      case neg =>
        have HVT := Lib.hid hvt
        clear hvt CN
        go_enter Try.func4, Try.ntmps4
        go_upto_region 1 with fail
        rw [← hw1]
        clear hw1
        go_wp2_with fail
        refine (CF1.out).mono ?_
        rintro e w2 ⟨rfl, hb2⟩
        have HB2 := Lib.hid (HB1.out.trans (hb2.mono HB1.out.size))
        have HK2 := Lib.hid (HK1.out.after hb2)
        clear hb2
        clear a0 a1 a2 a3 a4 a5 a6 a7 a8 al
        obtain ⟨⟨a0, a1⟩, ⟨a2, a3, a4, a5, a6, a7⟩, a8, al⟩ := start_cells HK2.out
        go_wp2_with fail
        refine (CP.out w2 HB2.out HPS.out.2 true ⟨fun _ => HVP.out, fun _ => rfl⟩).mono ?_
        rintro e w3 ⟨rfl, hb3⟩
        have HB3 := Lib.hid (HB2.out.trans (hb3.mono HB2.out.size))
        have HK3 := Lib.hid (HK2.out.after hb3)
        clear hb3
        clear a0 a1 a2 a3 a4 a5 a6 a7 a8 al
        obtain ⟨⟨a0, a1⟩, ⟨a2, a3, a4, a5, a6, a7⟩, a8, al⟩ := start_cells HK3.out
        go_wp2_with fail
        refine (CV.out w3 HB3.out HSM.out false ⟨fun h => (by cases h), fun h => absurd h HVT.out⟩).mono ?_
        rintro e w4 ⟨rfl, hb4⟩
        have HB4 := Lib.hid (HB3.out.trans (hb4.mono HB3.out.size))
        have HK4 := Lib.hid (HK3.out.after hb4)
        clear hb4
        clear a0 a1 a2 a3 a4 a5 a6 a7 a8 al
        go_wp2_with fail
        refine (alive54_any _).mono ?_
        rintro e w5 ⟨rfl, hb5⟩
        have HB5 := Lib.hid (HB4.out.trans (hb5.mono HB4.out.size))
        clear hb5
        go_wp2
        go_ret
        exact ⟨rfl, HB5.out⟩
      case pos =>
        have HVT := Lib.hid hvt
        clear hvt
        go_enter Try.func4, Try.ntmps4
        go_upto_region 1 with fail
        rw [← hw1]
        clear hw1
        go_wp2_with fail
        refine (CF1.out).mono ?_
        rintro e w2 ⟨rfl, hb2⟩
        have HB2 := Lib.hid (HB1.out.trans (hb2.mono HB1.out.size))
        have HK2 := Lib.hid (HK1.out.after hb2)
        clear hb2
        clear a0 a1 a2 a3 a4 a5 a6 a7 a8 al
        obtain ⟨⟨a0, a1⟩, ⟨a2, a3, a4, a5, a6, a7⟩, a8, al⟩ := start_cells HK2.out
        go_wp2_with fail
        refine (CP.out w2 HB2.out HPS.out.2 true ⟨fun _ => HVP.out, fun _ => rfl⟩).mono ?_
        rintro e w3 ⟨rfl, hb3⟩
        have HB3 := Lib.hid (HB2.out.trans (hb3.mono HB2.out.size))
        have HK3 := Lib.hid (HK2.out.after hb3)
        clear hb3
        clear a0 a1 a2 a3 a4 a5 a6 a7 a8 al
        obtain ⟨⟨a0, a1⟩, ⟨a2, a3, a4, a5, a6, a7⟩, a8, al⟩ := start_cells HK3.out
        go_wp2_with fail
        refine (CV.out w3 HB3.out HSM.out true ⟨fun _ => HVT.out, fun _ => rfl⟩).mono ?_
        rintro e w4 ⟨rfl, hb4⟩
        have HB4 := Lib.hid (HB3.out.trans (hb4.mono HB3.out.size))
        have HK4 := Lib.hid (HK3.out.after hb4)
        clear hb4
        clear a0 a1 a2 a3 a4 a5 a6 a7 a8 al
        obtain ⟨⟨a0, a1⟩, ⟨a2, a3, a4, a5, a6, a7⟩, a8, al⟩ := start_cells HK4.out
        go_wp2_with fail
        refine (CN.out w4 HB4.out HPS.out HSM.out hn20).mono ?_
        rintro e w5 ⟨h5, hb5⟩
        obtain ⟨D, rfl, hd5⟩ : ∃ D, e = .returned (.tuple #[.pointer (some ⟨D, 0, none⟩), .int .i64 0]) ∧ DocAt w5 w4.heap.size D (.slice none 0 0) p t X0 [] := by
          rcases h5 with ⟨h, -⟩ | ⟨-, D, h1, h2⟩
          · exact absurd ⟨HVP.out, HVT.out⟩ h
          · exact ⟨D, h1, h2⟩
        have HB45 := Lib.hid hb5
        have HB5 := Lib.hid (HB4.out.trans (hb5.mono HB4.out.size))
        have HK5 := Lib.hid (HK4.out.after hb5)
        have HD5 : Hid (Doc w5 w4.heap.size D (.slice none 0 0) p t X0 X0 [] []) := Lib.hid ⟨hd5, Hist.nil _, Short.nil (by rw [HN.out]; exact hn20), First.nil _⟩
        have HSM' : Hid (p.spans.length ≤ 100000 ∧ t.cls.length ≤ 1000 ∧ t.act.length ≤ 1000) := Lib.hid ⟨by have := HPS.out.2; omega, by have := HSM.out.1.1; omega, by have := HSM.out.1.2; omega⟩
        have HS4 := Lib.hid ((HSA.out.below HB4.out).lt)
        clear hb5 h5 hd5 CN CP CV CF1
        clear a0 a1 a2 a3 a4 a5 a6 a7 a8 al
        go_wp2
        go_loopw [44] (fun i wr => ∃ (k : Nat) (uv : Value) (X : List Int) (U : List EdN) (Bf : List (List Int)), k ≤ nl ∧ i = .int .i64 (k : Int) ∧ Hid (Doc wr w4.heap.size D uv p t X0 X U Bf) ∧ Bf.length ≤ k ∧ Hid (Below w4.heap.size w4 wr)) (fun i _ => nl - (intOf i).toNat)
        case atStart => exact ⟨0, .slice none 0 0, X0, [], [], by omega, rfl, HD5, Nat.le_refl _, HB45⟩
        case round =>
          obtain ⟨k, uv, X, U, Bf, hk, rfl, HD, hbk, HB⟩ := hrel
          have HBW := Lib.hid (HB4.out.trans (HB.out.mono HB4.out.size))
          by_cases hkn : k < nl
          · obtain ⟨b, o, s, A', c', hA, hb, hs, ⟨c0, c1, c2, c3, c4⟩, ⟨hic, hicm⟩, hri⟩ := (HS4.out.below HB.out).at_ (k := k) (by rw [HNL.out]; exact hkn)
            subst hA
            have hbl : b < wr.heap.size := by have := HB.out.size; omega
            obtain ⟨ni, hni⟩ : ∃ z, s.ins.length = z := ⟨_, rfl⟩
            rw [hni] at c2 hic
            have hni40 : ni ≤ 40 := by rw [← hni]; exact HF.out.2.2.2.2 s (List.mem_of_getElem? hs.out)
            obtain ⟨w6, hw6, HB6', HK6⟩ := boxV wr 48 #[.int .i64 s.x, .int .i64 s.y, .slice A' ni c', .bool s.un, .int .i64 s.pos]
            have HB6 := Lib.hid (HB.out.trans (HB6'.out.mono HB.out.size))
            have HD6 := Lib.hid (HD.out.after HB6'.out)
            have HRI := Lib.hid (hri.out.below (HB6'.out.mono HB.out.size))
            obtain ⟨g, hg⟩ : ∃ z, z = wr.heap.size := ⟨_, rfl⟩
            rw [← hg] at HK6
            have HGG := Lib.hid hg
            have HNI := Lib.hid hni
            have HIC := Lib.hid (And.intro hic hicm)
            have HSL := Lib.hid hs.out
            clear hni hic hicm hri hs
            have e0 := HK6.out.cell 0
            have e1 := HK6.out.cell 1
            have e2 := HK6.out.cell 2
            have e3 := HK6.out.cell 3
            have e4 := HK6.out.cell 4
            have el := HK6.out.lt
            simp only [List.getElem?_toArray, List.getElem?_cons_zero, List.getElem?_cons_succ] at e0 e1 e2 e3 e4
            go_upto_region 9 with fail
            rw [← hw6, ← hg]
            clear hw6 hg c0 c1 c2 c3 c4
            go_upto_if 49 with fail
            go_cut [] (fun wx => ∃ (uv' : Value) (X' : List Int) (U' : List EdN) (Bf' : List (List Int)), Hid (Doc wx w4.heap.size D uv' p t X0 X' U' Bf') ∧ Bf'.length ≤ k + 1 ∧ Hid (Below w4.heap.size w4 wx))
            case first =>
              obtain ⟨un, hun⟩ : ∃ u, s.un = u := ⟨_, rfl⟩
              rw [hun]
              clear hun e3
              cases un with
              | true =>
                go_wp2_with fail
                refine (undo_all w4.heap.size D uv p t X0 X U Bf w6 HD6.out (by omega) HSM'.out.1 HSM'.out.2).mono ?_
                rintro e w7 ⟨b7, uv7, X7, U7, Bf7, rfl, hd7, ⟨hk7, -⟩, ho7⟩
                have HD7 := Lib.hid hd7
                have HB7 := Lib.hid (HB6.out.trans hk7.1)
                have hl7 := ho7.len
                clear hd7 hk7 ho7
                go_wp2
                go_meet
                case rel => exact ⟨uv7, X7, U7, Bf7, HD7, by omega, HB7⟩
              | false =>
                go_wp2_with fail
                refine (edit_all s.x s.y w4.heap.size D uv p t X0 X U Bf s.ins A' ni c' w6 HD6.out HRI.out HNI.out hni40 HIC.out.1 HIC.out.2 (by omega) HSM'.out.1 HSM'.out.2).mono ?_
                rintro e w7 ⟨lo, hi, code, uv7, X7, U7, Bf7, rfl, hd7, ⟨hk7, -⟩, ho7⟩
                have HD7 := Lib.hid hd7
                have HB7 := Lib.hid (HB6.out.trans hk7.1)
                have hl7 := ho7.len
                clear hd7 hk7 ho7
                go_wp2
                go_meet
                case rel => exact ⟨uv7, X7, U7, Bf7, HD7, by omega, HB7⟩
            case rest =>
              obtain ⟨uv7, X7, U7, Bf7, HD7, hl7, HB7⟩ := hcut
              have hx7 := HD7.out.len (by omega)
              have HKc := Lib.hid (HK4.out.after HB7.out)
              obtain ⟨nx, hnx⟩ : ∃ z, X7.length = z := ⟨_, rfl⟩
              obtain ⟨bb, hbb⟩ : ∃ z, bndL p t X7 = z := ⟨_, rfl⟩
              obtain ⟨N, hN⟩ : ∃ z, bb.length = z := ⟨_, rfl⟩
              have hNl := bnd_len p t X7
              rw [hbb, hN, hnx] at hNl
              rw [hnx] at hx7
              have HPc := Lib.hid ((HPR.out.below (HB4.out.trans (HB7.out.mono HB4.out.size))).lt)
              have HTc := Lib.hid ((HTB.out.below (HB4.out.trans (HB7.out.mono HB4.out.size))).lt)
              have CB := fun (u : World) (hu : Below wc.heap.size wc u) => docB_any w4.heap.size D uv7 p t X7 U7 u (HD7.out.1.after hu) (by omega)
              have CT := fun (u : World) (hu : Below wc.heap.size wc u) => docT_any w4.heap.size D uv7 p t X7 U7 u (HD7.out.1.after hu) (by omega)
              have CR := fun (u : World) (hu : Below wc.heap.size wc u) (A : Option Addr) (c : Nat) (hr : Row u u.heap.size A (ints X7)) => rbounds_any x p y t A c X7 u (HPc.out.below hu).lt HSM'.out.1 (HTc.out.below hu).lt HSM'.out.2 hr (by omega)
              unfold RetInts at CB CT
              unfold RetI PA.val TA.val at CR
              rw [hbb, hN] at CB CR
              rw [hnx] at CT CR
              have HNX := Lib.hid hnx
              have HNN := Lib.hid hN
              replace CB := Lib.hid CB
              replace CT := Lib.hid CT
              replace CR := Lib.hid CR
              clear hnx hbb hN e0 e1 e2 e3 e4 el
              go_upto_region 12 with fail
              refine wp_region_tree (fun w' => Blk w' w.heap.size 33 (startC x p y t At n ct)) (.float 0 (.float 2 (.float 3 (.float 4 (.float 5 (.float 6 (.one 1 (.one 7 (.one 8 (.one 9 (.float 10 .done))))))))))) (by kernel_rfl) (by kernel_rfl) (fun _ _ d _ _ h => by cases d <;> exact h) HKc.out.drew ?_
              repeat (first
                | (refine wpTr_fskip (by simp only [List.getElem?_toArray, List.getElem?_cons_zero, List.getElem?_cons_succ]; rfl) (by rfl) ?_
                   simp only [Act.put, List.setIfInBounds_toArray, List.set_cons_zero, List.set_cons_succ])
                | (refine wpTr_float (v := ?_) (by simp only [List.getElem?_toArray, List.getElem?_cons_zero, List.getElem?_cons_succ]; rfl) (by rfl) (fun w' hS => ?_) ?_
                   rotate_left
                   ((obtain ⟨⟨b0', b1'⟩, ⟨b2', b3', b4', b5', b6', b7'⟩, b8', bl'⟩ := start_cells hS); go_simp; first | done | rfl)
                   simp only [Act.put, List.setIfInBounds_toArray, List.set_cons_zero, List.set_cons_succ]))
              refine wpTr_one ?_
              refine stepTr_K (by simp only [List.getElem?_toArray, List.getElem?_cons_zero, List.getElem?_cons_succ]; rfl) (by rfl) (fun K hK => ?_)
              go_simp
              refine (CB.out wc.drew (Below.refl _ _).drew).mono ?_
              rintro e w8 ⟨A8, c8, rfl, -, -, hr8, -, hb8⟩
              have HB8 : Hid (Below wc.heap.size wc w8) := (Below.refl _ _).drew.trans hb8
              have HR8 := Lib.hid hr8
              refine hK.out _ _ (HKc.out.after HB8.out) ?_
              clear hK K hr8 hb8
              try simp only [Act.put, List.setIfInBounds_toArray, List.set_cons_zero, List.set_cons_succ]
              refine wpTr_one ?_
              refine stepTr_K (by simp only [List.getElem?_toArray, List.getElem?_cons_zero, List.getElem?_cons_succ]; rfl) (by rfl) (fun K hK => ?_)
              go_simp
              refine (CT.out w8 HB8.out).mono ?_
              rintro e w9 ⟨A9, c9, rfl, -, -, hr9, -, hb9⟩
              have HB9 := Lib.hid (HB8.out.trans (hb9.mono HB8.out.size))
              have HR9 := Lib.hid hr9
              have HR8' := Lib.hid (HR8.out.below hb9).lt
              refine hK.out _ _ (HKc.out.after HB9.out) ?_
              clear hK K hr9 hb9 HR8
              try simp only [Act.put, List.setIfInBounds_toArray, List.set_cons_zero, List.set_cons_succ]
              refine wpTr_one ?_
              refine stepTr_K (by simp only [List.getElem?_toArray, List.getElem?_cons_zero, List.getElem?_cons_succ]; rfl) (by rfl) (fun K hK => ?_)
              go_simp
              refine (CR.out w9 HB9.out A9 c9 HR9.out).mono ?_
              rintro e w10 ⟨A10, c10, rfl, -, -, hr10, hb10⟩
              have HB10 := Lib.hid (HB9.out.trans (hb10.mono HB9.out.size))
              have HR10 := Lib.hid hr10
              have HR8 := Lib.hid (HR8'.out.below hb10).lt
              refine hK.out _ _ (HKc.out.after HB10.out) ?_
              clear hK K hr10 hb10 HR8'
              try simp only [Act.put, List.setIfInBounds_toArray, List.set_cons_zero, List.set_cons_succ]
              refine wpTr_one ?_
              refine stepTr_K (by simp only [List.getElem?_toArray, List.getElem?_cons_zero, List.getElem?_cons_succ]; rfl) (by rfl) (fun K hK => ?_)
              go_simp
              refine (eql_any A8 A10 c8 c10 N N bb bb w10 HR8.out HR10.out HNN.out HNN.out (by omega) (by omega) true (by simp)).mono ?_
              rintro e w11 ⟨rfl, hb11⟩
              have HB11 := Lib.hid (HB10.out.trans (hb11.mono HB10.out.size))
              refine hK.out _ _ (HKc.out.after HB11.out) ?_
              clear hK K hb11
              try simp only [Act.put, List.setIfInBounds_toArray, List.set_cons_zero, List.set_cons_succ]
              repeat (first
                | (refine wpTr_fskip (by simp only [List.getElem?_toArray, List.getElem?_cons_zero, List.getElem?_cons_succ]; rfl) (by rfl) ?_
                   simp only [Act.put, List.setIfInBounds_toArray, List.set_cons_zero, List.set_cons_succ])
                | (refine wpTr_float (v := ?_) (by simp only [List.getElem?_toArray, List.getElem?_cons_zero, List.getElem?_cons_succ]; rfl) (by rfl) (fun w' hS => ?_) ?_
                   rotate_left
                   ((skip); go_simp; first | done | rfl)
                   simp only [Act.put, List.setIfInBounds_toArray, List.set_cons_zero, List.set_cons_succ]))
              refine wpTr_done ?_
              have HD11 := Lib.hid (HD7.out.after HB11.out)
              have HBF := Lib.hid (HB7.out.trans (HB11.out.mono HB7.out.size))
              go_wp2
              go_roundw
              case rel => exact ⟨k + 1, uv7, X7, U7, Bf7, by omega, by go_num, HD11, by omega, HBF⟩
              case measure => simp [intOf]; omega
          · go_wp2_with fail
            refine (alive54_any _).mono ?_
            rintro e w9 ⟨rfl, hb9⟩
            have HB9 := Lib.hid (HBW.out.trans (hb9.mono HBW.out.size))
            clear hb9
            go_wp2
            go_ret
            exact ⟨rfl, HB9.out⟩
theorem own : ownKnob Try.prog.godebug = none := by kernel_rfl
theorem laidOut : laidOutB Try.prog = true := by kernel_rfl
set_option maxRecDepth 100000 in
theorem lifted (os : Os) (started : os.Started) (H : Type) (enc : TypeId × Value → H) :
    ReturnsInHanded {} Try.checked os 4 .any (Rows.incbreakAgainSpec.pre6 enc Try.prog Try.f4 Rows.incbreakAgainRow.domain false) (Rows.incbreakAgainSpec.post enc Try.prog Try.f4 false true false false) := by
  refine returnsInHanded_of_change (C := Try.checked) own started (by kernel_rfl) Try.func4
    (ChangeSpec.witness6 (enc := enc) (C := Try.checked) false ⟨#[], #[.agg #[.slice none 0 0, .slice none 0 0, .slice none 0 0, .slice none 0 0, .slice none 0 0, .slice none 0 0, .slice none 0 0, .slice none 0 0, .slice none 0 0], .slice none 0 0], []⟩ 8 (by kernel_rfl) (by kernel_rfl) (by kernel_rfl) (by kernel_rfl)) ?_
  intro W base args ds gs before hval0 hW hcnd _
  have hval : ∀ (j : Nat) t v, Try.f4.params[j]? = some t → args[j]? = some v → Value.okWide Try.prog W .any base t v := hval0
  have hW' := hW
  obtain ⟨p, q, hA0, hV, rfl, hfz, hnd⟩ := hW
  have hA : DataW.TrodAll enc Try.prog W 0 (fun _ => true) true Try.f4.params.toList args.toList ds p := hA0
  rw [Try.params4] at hA hval
  obtain ⟨v0, v1, d0, d1, p0, p1, rfl, rfl, rfl, h0, h1⟩ := trodAll_two hA
  obtain ⟨rfl, rfl⟩ := trodVars_none hV
  obtain ⟨xp0, q0, y0, t0, A0, c0, X0, rfl, hP0, hT0, hc0, hm0, hR0⟩ := open_start54 (hval 0 33 v0 rfl rfl) h0
  obtain ⟨ad1, le1, ca1, rfl⟩ := okWide_slice Try.underlying34 (hval 1 34 v1 rfl rfl)
  obtain ⟨fu1, hf1⟩ := h1
  obtain ⟨A1, c1, xs1, hv1, hc1, hm1, hR1⟩ := open_steps (v := .slice ad1 le1 ca1) hf1
  injection hv1 with ea1 eb1 ec1
  subst ea1 eb1 ec1
  refine (walk W xp0 q0 hP0 y0 t0 hT0 A0 c0 X0 hc0 hm0 hR0 ad1 ca1 xs1 hc1 hm1 hR1).mono fun e W' ⟨he, hb⟩ => ⟨_, he, ?_⟩
  exact law_post laidOut (by rw [Try.params4]; exact of_decide_eq_true (by kernel_rfl)) rfl rfl Try.underlying4 hW' rfl hb
theorem holds : Rows.IncbreakAgainSaid :=
  OpenClaim.holds_of_wide 4 Try.f4 rfl rfl rfl rfl rfl rfl rfl ⟨rfl, rfl, rfl, rfl, rfl⟩ rfl rfl rfl rfl rfl (by kernel_rfl) Try.func4 (by kernel_rfl)
    (of_decide_eq_true (by kernel_rfl)) (by unfold Func.isWrapper; first | (rw [if_pos (by decide +kernel)]; kernel_rfl) | (rw [if_neg (by decide +kernel)]; exact ⟨rfl, rfl⟩))
    (fun os started H enc _ => lifted os started H enc)
end Go.Proofs.Ytkpblieanejmeaa.LAgain
namespace Go.Proofs.Ytkpblieanejmeaa
theorem incbreakAgain_holds : Rows.IncbreakAgainSaid := LAgain.holds
end Go.Proofs.Ytkpblieanejmeaa
