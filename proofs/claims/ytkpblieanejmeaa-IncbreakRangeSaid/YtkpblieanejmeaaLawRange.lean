/-
  IncbreakRange: for every input the law returns true, and its arguments read as before. No condition.
-/
import Derived.Test.YtkpblieanejmeaaRows
import Derived.Test.YtkpblieanejmeaaLift
import Derived.Test.YtkpblieanejmeaaIj0
import Derived.Test.YtkpblieanejmeaaIe0
import Derived.BigQuiet
namespace Go.Proofs.Ytkpblieanejmeaa.LRange
open Go.ChangeShapes Go.WideShapes Go.ChangeAt Go.RowKit Go.UtYtkpblieanejmeaa Go.Joins
set_option maxRecDepth 100000 in
set_option maxHeartbeats 2000000 in
theorem at54_any (A : Option Addr) (m c : Nat) (l : List Int) (x : Int) (w : World) (v : Bool) (hl : Row w w.heap.size A (ints l)) (hm : l.length = m) (hm2 : m ≤ 1000000) (hv : decide (x ∈ l) = v) :
    Calls Try.prog 28 #[.slice A m c, .int .i64 x] w fun e w' => e = .returned (.bool v) ∧ w' = w := by
  have HL := Lib.hid hl
  have HM := Lib.hid hm
  have HV := Lib.hid hv
  clear hl hm hv
  go_enter Try.func28, Try.ntmps28
  go_wp2
  go_loopw [9] (fun i wr => ∃ k : Nat, k ≤ m ∧ i = .int .i64 (k : Int) ∧ Hid (∀ y ∈ l.take k, y ≠ x) ∧ wr = w) (fun i _ => m - (intOf i).toNat)
  case atStart => exact ⟨0, by omega, rfl, Lib.hid (by simp), rfl⟩
  case round =>
    obtain ⟨k, hk, rfl, HN, hw⟩ := hrel
    subst wr
    by_cases hkm : k < m
    · obtain ⟨b, o, q, hA, hb, hq, cq⟩ := HL.out.at_int (k := k) (by rw [HM.out]; exact hkm)
      subst hA
      by_cases hqx : q = x
      · have HF : Hid (v = true) := Lib.hid (by rw [← HV.out]; exact decide_eq_true (hqx ▸ List.mem_of_getElem? hq.out))
        have dq : decide (q = x) = true := decide_eq_true hqx
        go_wp2
        go_ret
        exact ⟨by rw [HF.out]; rfl, rfl⟩
      · have dq : decide (q = x) = false := decide_eq_false hqx
        have bq : (q == x) = false := by simpa using hqx
        have HN' : Hid (∀ y ∈ l.take (k + 1), y ≠ x) := Lib.hid (by
          intro y hy
          obtain ⟨h1, h2⟩ := List.getElem?_eq_some_iff.1 hq.out
          rw [List.take_succ_eq_append_getElem h1, h2] at hy
          rcases List.mem_append.1 hy with hy | hy
          · exact HN.out y hy
          · rw [List.mem_singleton.1 hy]
            exact hqx)
        go_wp2
        go_roundw
        case rel => exact ⟨k + 1, by omega, by go_num, HN', trivial⟩
        case measure => simp [intOf] <;> omega
    · have HF : Hid (v = false) := Lib.hid (by
        rw [← HV.out]
        refine decide_eq_false (fun h => HN.out x ?_ rfl)
        rw [List.take_of_length_le (by rw [HM.out]; omega)]
        exact h)
      go_wp2
      go_ret
      exact ⟨by rw [HF.out]; rfl, rfl⟩
/-- the one step of an edit -/
theorem one_step {w : World} {g B m c T : Nat} {A : Option Addr} {a b : Int} {ins : List Int} (h : Blk w g T #[.int .i64 a, .int .i64 b, .slice A m c, .bool false, .int .i64 0]) (hm : ins.length = m) (hc : m ≤ c) (hcm : c ≤ maxLen) (hI : Row w B A (ints ins)) : StepsAt w w.heap.size (some ⟨g, 0, none⟩) [⟨a, b, ins, false, 0⟩] := by
  refine ⟨[.int .i64 a, .int .i64 b, .slice A m c, .bool false, .int .i64 0], rfl, fun _ => ⟨g, 0, rfl, h.lt, fun k v hk => ?_⟩, fun k s hk => ?_⟩
  · rw [Nat.zero_add, h.cell k]
    simpa using hk
  · rcases k with _ | k
    · injection hk with hk
      subst hk
      exact ⟨A, c, ⟨rfl, rfl, by rw [hm]; rfl, rfl, rfl⟩, by rw [hm]; exact hc, hcm, hI.lt⟩
    · simp at hk
set_option maxRecDepth 100000 in
set_option maxHeartbeats 4000000 in
theorem walk (w : World) (x : PA) (p : PR) (hP : PrAt w w.heap.size x p) (y : TA) (t : BT) (hT : TabAt w w.heap.size y t) (At : Option Addr) (ct : Nat) (X0 : List Int) (_hct : X0.length ≤ ct) (_hmt : ct ≤ maxLen) (hR : Row w w.heap.size At (ints X0)) (a b : Int) (A : Option Addr) (c : Nat) (ins : List Int) (hc : ins.length ≤ c) (hm : c ≤ maxLen) (hI : Row w w.heap.size A (ints ins)) :
    Calls Try.prog 6 #[.agg (startC x p y t At X0.length ct), .agg #[.int .i64 a, .int .i64 b, .slice A ins.length c]] w fun e w' => e = .returned (.bool true) ∧ Below w.heap.size w w' := by
  obtain ⟨n, hn⟩ : ∃ n, X0.length = n := ⟨_, rfl⟩
  obtain ⟨m, hm'⟩ : ∃ m, ins.length = m := ⟨_, rfl⟩
  rw [hm'] at hc
  have CP := fun (u : World) (hu : Below w.heap.size w u) (hs : p.spans.length ≤ 16) (v : Bool) (hv : v = true ↔ validP p) => rvalidP_any x p u (hP.below hu).lt (by omega) v hv
  have CV := fun (u : World) (hu : Below w.heap.size w u) (hs : smT t) (v : Bool) (hv : v = true ↔ validT t) => valid29_any y t u (hT.below hu).lt ⟨by have := hs.1.1; omega, by have := hs.1.2; omega⟩ v hv
  have CN := fun (u : World) (hu : Below w.heap.size w u) (hps : p.names.length ≤ 300 ∧ p.spans.length ≤ 16) (hs : smT t) (hn20 : n ≤ 20) => new_any x p y t At ct n X0 u (hP.below hu).lt (hT.below hu).lt (hR.below hu).lt hn (by omega) hs (by omega)
  unfold PA.val at CP CN
  unfold TA.val at CV CN
  unfold RetNew at CN
  replace CP := Lib.hid CP
  replace CV := Lib.hid CV
  replace CN := Lib.hid CN
  have HPR := Lib.hid hP
  have HTB := Lib.hid hT
  have HRX := Lib.hid hR
  have HIR := Lib.hid hI
  have HM := Lib.hid hm'
  have HIC := Lib.hid (And.intro hc hm)
  have HN := Lib.hid hn
  obtain ⟨w1a, hw1a, HB1a, HK1a⟩ := boxV w 33 (startC x p y t At n ct)
  obtain ⟨w1b, hw1b, HB1b, HE1b⟩ := boxV w1a 46 #[.int .i64 a, .int .i64 b, .slice A m c]
  obtain ⟨w1, hw1, HB1c, HS1⟩ := boxV w1b 48 #[.int .i64 a, .int .i64 b, .slice A m c, .bool false, .int .i64 0]
  have hs1 : w1a.heap.size = w.heap.size + 1 := by rw [hw1a]; simp
  have hs2 : w1b.heap.size = w.heap.size + 1 + 1 := by rw [hw1b, World.size_alloc, hs1]
  rw [hs1] at HE1b
  rw [hs2] at HS1
  have HB1 : Hid (Below w.heap.size w w1) := Lib.hid (HB1a.out.trans ((HB1b.out.trans (HB1c.out.mono HB1b.out.size)).mono HB1a.out.size))
  have HK1 := Lib.hid ((HK1a.out.after HB1b.out).after HB1c.out)
  have HE1 := Lib.hid (HE1b.out.after HB1c.out)
  obtain ⟨ge, hge⟩ : ∃ D, D = w.heap.size + 1 := ⟨_, rfl⟩
  obtain ⟨gs, hgs⟩ : ∃ D, D = w.heap.size + 1 + 1 := ⟨_, rfl⟩
  rw [← hge] at HE1 HE1b
  rw [← hgs] at HS1
  obtain ⟨l, hl⟩ : ∃ l : List St, l = [⟨a, b, ins, false, 0⟩] := ⟨_, rfl⟩
  have hnl : l.length = 1 := by rw [hl]; rfl
  have HSS : Hid (StepsAt w1 w1.heap.size (some ⟨gs, 0, none⟩) l) := Lib.hid (by rw [hl]; exact one_step HS1.out hm' hc hm (hI.below HB1.out))
  have CF := fun (v : Bool) (hv : v = true ↔ Few54 p t n l) => few54_any x p y t At n ct (some ⟨gs, 0, none⟩) 1 1 l w1 (hT.below HB1.out).lt HSS.out hnl v hv
  unfold startC at CF
  replace CF := Lib.hid CF
  have HL := Lib.hid hl
  have HNL := Lib.hid hnl
  clear HB1a hl hnl HSS hs1 HS1
  have ht : w1b.heap.size = gs := by rw [hs2, hgs]
  have HTS := Lib.hid ht
  clear hs2 ht
  have HK1b := Lib.hid (HK1a.out.after HB1b.out)
  obtain ⟨⟨a0, a1⟩, ⟨a2, a3, a4, a5, a6, a7⟩, a8, al⟩ := start_cells HK1b.out
  obtain ⟨q0, q1, q2⟩ := HE1b.out.cells3
  have ql := HE1b.out.lt
  unfold startC at hw1a ⊢
  rw [hn, hm']
  clear hP hT hR hI hn hm' hc hm HK1a HK1b HE1b HB1b HB1c
  by_cases hf : Few54 p t n l
  case neg =>
    have CF1 := Lib.hid (CF.out false ⟨fun h => (by cases h), fun h => absurd h hf⟩)
    clear CF CP CV CN hf
    go_enter Try.func6, Try.ntmps6
    go_upto_region 1 with fail
    rw [← hw1a, ← hge, ← hw1b]
    clear hw1a hge hw1b
    go_wp2_with fail
    rw [← hw1, HTS.out]
    clear hw1 hgs q0 q1 q2 ql
    refine (CF1.out).mono ?_
    rintro e w2 ⟨rfl, hb2⟩
    have HB2 := Lib.hid (HB1.out.trans (hb2.mono HB1.out.size))
    have HK2 := Lib.hid (HK1.out.after hb2)
    have HE2 := Lib.hid (HE1.out.after hb2)
    clear hb2
    clear a0 a1 a2 a3 a4 a5 a6 a7 a8 al
    go_wp2_with fail
    refine (alive54_any _).mono ?_
    rintro e w3 ⟨rfl, hb3⟩
    have HB3 := Lib.hid (HB2.out.trans (hb3.mono HB2.out.size))
    clear hb3
    go_wp2
    go_ret
    exact ⟨rfl, HB3.out⟩
  case pos =>
    have CF1 := Lib.hid (CF.out true ⟨fun _ => hf, fun _ => rfl⟩)
    have HF := Lib.hid hf
    have hps := hf.2.1
    have hsm := hf.2.2.1
    have hn20 := hf.2.2.2.1
    have hm40 : m ≤ 40 := by rw [← HM.out]; exact hf.2.2.2.2 ⟨a, b, ins, false, 0⟩ (by rw [HL.out]; simp)
    clear hf CF
    by_cases hvp : validP p
    case neg =>
      have HVP := Lib.hid hvp
      have HPS := Lib.hid hps
      clear hvp hps hsm CV CN
      go_enter Try.func6, Try.ntmps6
      go_upto_region 1 with fail
      rw [← hw1a, ← hge, ← hw1b]
      clear hw1a hge hw1b
      go_wp2_with fail
      rw [← hw1, HTS.out]
      clear hw1 hgs q0 q1 q2 ql
      refine (CF1.out).mono ?_
      rintro e w2 ⟨rfl, hb2⟩
      have HB2 := Lib.hid (HB1.out.trans (hb2.mono HB1.out.size))
      have HK2 := Lib.hid (HK1.out.after hb2)
      have HE2 := Lib.hid (HE1.out.after hb2)
      clear hb2
      clear a0 a1 a2 a3 a4 a5 a6 a7 a8 al
      obtain ⟨⟨a0, a1⟩, ⟨a2, a3, a4, a5, a6, a7⟩, a8, al⟩ := start_cells HK2.out
      go_wp2_with fail
      refine (CP.out w2 HB2.out HPS.out.2 false ⟨fun h => (by cases h), fun h => absurd h HVP.out⟩).mono ?_
      rintro e w3 ⟨rfl, hb3⟩
      have HB3 := Lib.hid (HB2.out.trans (hb3.mono HB2.out.size))
      have HK3 := Lib.hid (HK2.out.after hb3)
      have HE3 := Lib.hid (HE2.out.after hb3)
      clear hb3
      clear a0 a1 a2 a3 a4 a5 a6 a7 a8 al
      go_wp2_with fail
      refine (alive54_any _).mono ?_
      rintro e w4 ⟨rfl, hb4⟩
      have HB4 := Lib.hid (HB3.out.trans (hb4.mono HB3.out.size))
      clear hb4
      go_wp2
      go_ret
      exact ⟨rfl, HB4.out⟩
    case pos =>
      have HVP := Lib.hid hvp
      have HPS := Lib.hid hps
      have HSM := Lib.hid hsm
      clear hvp hps hsm
      by_cases hvt : validT t
      case neg =>
        have HVT := Lib.hid hvt
        clear hvt CN
        go_enter Try.func6, Try.ntmps6
        go_upto_region 1 with fail
        rw [← hw1a, ← hge, ← hw1b]
        clear hw1a hge hw1b
        go_wp2_with fail
        rw [← hw1, HTS.out]
        clear hw1 hgs q0 q1 q2 ql
        refine (CF1.out).mono ?_
        rintro e w2 ⟨rfl, hb2⟩
        have HB2 := Lib.hid (HB1.out.trans (hb2.mono HB1.out.size))
        have HK2 := Lib.hid (HK1.out.after hb2)
        have HE2 := Lib.hid (HE1.out.after hb2)
        clear hb2
        clear a0 a1 a2 a3 a4 a5 a6 a7 a8 al
        obtain ⟨⟨a0, a1⟩, ⟨a2, a3, a4, a5, a6, a7⟩, a8, al⟩ := start_cells HK2.out
        go_wp2_with fail
        refine (CP.out w2 HB2.out HPS.out.2 true ⟨fun _ => HVP.out, fun _ => rfl⟩).mono ?_
        rintro e w3 ⟨rfl, hb3⟩
        have HB3 := Lib.hid (HB2.out.trans (hb3.mono HB2.out.size))
        have HK3 := Lib.hid (HK2.out.after hb3)
        have HE3 := Lib.hid (HE2.out.after hb3)
        clear hb3
        clear a0 a1 a2 a3 a4 a5 a6 a7 a8 al
        obtain ⟨⟨a0, a1⟩, ⟨a2, a3, a4, a5, a6, a7⟩, a8, al⟩ := start_cells HK3.out
        go_wp2_with fail
        refine (CV.out w3 HB3.out HSM.out false ⟨fun h => (by cases h), fun h => absurd h HVT.out⟩).mono ?_
        rintro e w4 ⟨rfl, hb4⟩
        have HB4 := Lib.hid (HB3.out.trans (hb4.mono HB3.out.size))
        have HK4 := Lib.hid (HK3.out.after hb4)
        have HE4 := Lib.hid (HE3.out.after hb4)
        clear hb4
        clear a0 a1 a2 a3 a4 a5 a6 a7 a8 al
        go_wp2_with fail
        refine (alive54_any _).mono ?_
        rintro e w5 ⟨rfl, hb5⟩
        have HB5 := Lib.hid (HB4.out.trans (hb5.mono HB4.out.size))
        clear hb5
        go_wp2
        go_ret
        exact ⟨rfl, HB5.out⟩
      case pos =>
        have HVT := Lib.hid hvt
        clear hvt
        go_enter Try.func6, Try.ntmps6
        go_upto_region 1 with fail
        rw [← hw1a, ← hge, ← hw1b]
        clear hw1a hge hw1b
        go_wp2_with fail
        rw [← hw1, HTS.out]
        clear hw1 hgs q0 q1 q2 ql
        refine (CF1.out).mono ?_
        rintro e w2 ⟨rfl, hb2⟩
        have HB2 := Lib.hid (HB1.out.trans (hb2.mono HB1.out.size))
        have HK2 := Lib.hid (HK1.out.after hb2)
        have HE2 := Lib.hid (HE1.out.after hb2)
        clear hb2
        clear a0 a1 a2 a3 a4 a5 a6 a7 a8 al
        obtain ⟨⟨a0, a1⟩, ⟨a2, a3, a4, a5, a6, a7⟩, a8, al⟩ := start_cells HK2.out
        go_wp2_with fail
        refine (CP.out w2 HB2.out HPS.out.2 true ⟨fun _ => HVP.out, fun _ => rfl⟩).mono ?_
        rintro e w3 ⟨rfl, hb3⟩
        have HB3 := Lib.hid (HB2.out.trans (hb3.mono HB2.out.size))
        have HK3 := Lib.hid (HK2.out.after hb3)
        have HE3 := Lib.hid (HE2.out.after hb3)
        clear hb3
        clear a0 a1 a2 a3 a4 a5 a6 a7 a8 al
        obtain ⟨⟨a0, a1⟩, ⟨a2, a3, a4, a5, a6, a7⟩, a8, al⟩ := start_cells HK3.out
        go_wp2_with fail
        refine (CV.out w3 HB3.out HSM.out true ⟨fun _ => HVT.out, fun _ => rfl⟩).mono ?_
        rintro e w4 ⟨rfl, hb4⟩
        have HB4 := Lib.hid (HB3.out.trans (hb4.mono HB3.out.size))
        have HK4 := Lib.hid (HK3.out.after hb4)
        have HE4 := Lib.hid (HE3.out.after hb4)
        clear hb4
        clear a0 a1 a2 a3 a4 a5 a6 a7 a8 al
        obtain ⟨⟨a0, a1⟩, ⟨a2, a3, a4, a5, a6, a7⟩, a8, al⟩ := start_cells HK4.out
        go_wp2_with fail
        refine (CN.out w4 HB4.out HPS.out HSM.out hn20).mono ?_
        rintro e w5 ⟨h5, hb5⟩
        obtain ⟨D, rfl, hd5⟩ : ∃ D, e = .returned (.tuple #[.pointer (some ⟨D, 0, none⟩), .int .i64 0]) ∧ DocAt w5 w4.heap.size D (.slice none 0 0) p t X0 [] := by
          rcases h5 with ⟨h, -⟩ | ⟨-, D, h1, h2⟩
          · exact absurd ⟨HVP.out, HVT.out⟩ h
          · exact ⟨D, h1, h2⟩
        have HB45 := Lib.hid hb5
        have HB5 := Lib.hid (HB4.out.trans (hb5.mono HB4.out.size))
        have HK5 := Lib.hid (HK4.out.after hb5)
        have HE5 := Lib.hid (HE4.out.after hb5)
        have HD5 : Hid (Doc w5 w4.heap.size D (.slice none 0 0) p t X0 X0 [] []) := Lib.hid ⟨hd5, Hist.nil _, Short.nil (by rw [HN.out]; exact hn20), First.nil _⟩
        have HSM' : Hid (p.spans.length ≤ 100000 ∧ t.cls.length ≤ 1000 ∧ t.act.length ≤ 1000) := Lib.hid ⟨by have := HPS.out.2; omega, by have := HSM.out.1.1; omega, by have := HSM.out.1.2; omega⟩
        clear hb5 h5 hd5 CN CP CV CF1
        clear a0 a1 a2 a3 a4 a5 a6 a7 a8 al
        have CB5 := docB_any w4.heap.size D (.slice none 0 0) p t X0 [] w5 HD5.out.1 (by rw [HN.out]; omega)
        obtain ⟨bo, hbo⟩ : ∃ z, bndL p t X0 = z := ⟨_, rfl⟩
        obtain ⟨No, hNo⟩ : ∃ z, bo.length = z := ⟨_, rfl⟩
        have hNol := bnd_len p t X0
        rw [hbo, hNo, HN.out] at hNol
        unfold RetInts at CB5
        rw [hbo, hNo] at CB5
        have HBO := Lib.hid hbo
        have HNO := Lib.hid hNo
        replace CB5 := Lib.hid CB5
        clear hbo hNo
        go_wp2_with fail
        refine CB5.out.mono ?_
        rintro e w6 ⟨Ao, co, rfl, -, -, hr6, hna, hb6⟩
        have HB6 := Lib.hid (HB5.out.trans (hb6.mono HB5.out.size))
        have HB46 := Lib.hid (HB45.out.trans (hb6.mono HB45.out.size))
        have HE6 := Lib.hid (HE5.out.after hb6)
        have HD6 := Lib.hid (HD5.out.after hb6)
        have HRO : Hid (Row (era w6 (Foot D (.slice none 0 0))) w6.heap.size Ao (ints bo)) := Lib.hid (hr6.era_new hna (fun b hb => HD5.out.1.footLt b hb))
        clear hb6 hr6 hna CB5
        obtain ⟨q0, q1, q2⟩ := HE6.out.cells3
        have ql := HE6.out.lt
        have HI6 : Hid (Row w6 w4.heap.size A (ints ins)) := Lib.hid ((HIR.out.below HB6.out).more HB4.out.size)
        go_wp2_with fail
        refine (edit_all a b w4.heap.size D (.slice none 0 0) p t X0 X0 [] [] ins A m c w6 HD6.out HI6.out HM.out hm40 HIC.out.1 HIC.out.2 (by simp) HSM'.out.1 HSM'.out.2).mono ?_
        rintro e w7 ⟨lo, hi, code, uv7, X7, U7, Bf7, rfl, hd7, ⟨hk7, hg7⟩, ho7⟩
        have HD7 := Lib.hid hd7
        have HB47 := Lib.hid (HB46.out.trans hk7.1)
        have HB7 := Lib.hid (HB4.out.trans (HB47.out.mono HB4.out.size))
        have HRO7 : Hid (Row w7 w7.heap.size Ao (ints bo)) := Lib.hid ((HRO.out.kept hk7 hg7).of_era)
        have HE7 := Lib.hid (HE4.out.after HB47.out)
        have HK7 := Lib.hid (HK4.out.after HB47.out)
        have hx7 := HD7.out.len (by have := ho7.len; simp at this; omega)
        clear hd7 hk7 hg7 q0 q1 q2 ql HRO
        rcases ho7 with ⟨-, rfl, rfl, rfl, rfl, -⟩ | ⟨-, i7, d7, a7, b7, ha7, hd7', hid7, rfl, rfl, rfl, hX7, -, hlo, hhi⟩
        · obtain ⟨w8, hw8, HC8, HQ8⟩ := boxV w7 52 #[.int .i64 0, .int .i64 0]
          have HB78 := HC8
          have HB8 := Lib.hid (HB7.out.trans (HC8.out.mono HB7.out.size))
          have HD8 := Lib.hid (HD7.out.after HC8.out)
          have HK8 := Lib.hid (HK7.out.after HC8.out)
          obtain ⟨gq, hgq⟩ : ∃ z, z = w7.heap.size := ⟨_, rfl⟩
          rw [← hgq] at HQ8
          have CT := fun (u : World) (hu : Below w8.heap.size w8 u) => docT_any w4.heap.size D uv7 p t X7 U7 u (HD8.out.1.after hu) (by omega)
          unfold RetInts at CT
          rw [HN.out] at CT
          replace CT := Lib.hid CT
          have HRc := Lib.hid ((HRX.out.below HB8.out).lt)
          have her := eq_rg
          go_upto_region 9 with fail
          rw [← hw8, ← hgq]
          clear hw8 hgq
          refine wp_region_tree (fun w' => Blk w' w.heap.size 33 (startC x p y t At n ct) ∧ Blk w' gq 52 #[.int .i64 0, .int .i64 0]) (.float 0 (.float 1 (.float 2 (.float 3 (.float 4 (.float 6 (.float 7 (.one 5 (.one 8 (.float 9 (.float 10 (.one 11 (.float 12 (.float 13 .done)))))))))))))) (by kernel_rfl) (by kernel_rfl) (fun _ _ d _ _ h => by cases d <;> exact h) ⟨HK8.out.drew, HQ8.out.drew⟩ ?_
          repeat (first
            | (refine wpTr_fskip (by simp only [List.getElem?_toArray, List.getElem?_cons_zero, List.getElem?_cons_succ]; rfl) (by rfl) ?_
               simp only [Act.put, List.setIfInBounds_toArray, List.set_cons_zero, List.set_cons_succ])
            | (refine wpTr_float (v := ?_) (by simp only [List.getElem?_toArray, List.getElem?_cons_zero, List.getElem?_cons_succ]; rfl) (by rfl) (fun w' hS => ?_) ?_
               rotate_left
               ((obtain ⟨hS1, hS2⟩ := hS; obtain ⟨⟨b0', b1'⟩, ⟨b2', b3', b4', b5', b6', b7'⟩, b8', bl'⟩ := start_cells hS1; obtain ⟨r0, r1, rl⟩ := blk2 hS2); go_simp; first | done | rfl)
               simp only [Act.put, List.setIfInBounds_toArray, List.set_cons_zero, List.set_cons_succ]))
          refine wpTr_one ?_
          refine stepTr_K (by simp only [List.getElem?_toArray, List.getElem?_cons_zero, List.getElem?_cons_succ]; rfl) (by rfl) (fun K hK => ?_)
          go_simp
          refine (CT.out w8.drew (Below.refl _ _).drew).mono ?_
          rintro e w9 ⟨A9, c9, rfl, -, -, hr9, -, hb9⟩
          have HB9 : Hid (Below w8.heap.size w8 w9) := (Below.refl _ _).drew.trans hb9
          have HR9 := Lib.hid hr9
          refine hK.out _ _ ⟨HK8.out.after HB9.out, HQ8.out.after HB9.out⟩ ?_
          clear hK K hr9 hb9
          try simp only [Act.put, List.setIfInBounds_toArray, List.set_cons_zero, List.set_cons_succ]
          refine wpTr_one ?_
          refine stepTr_K (by simp only [List.getElem?_toArray, List.getElem?_cons_zero, List.getElem?_cons_succ]; rfl) (by rfl) (fun K hK => ?_)
          go_simp
          refine (eql_any A9 At c9 ct n n X7 X7 w9 HR9.out (HRc.out.below HB9.out).lt HN.out HN.out (by omega) (by omega) true (by simp)).mono ?_
          rintro e w10 ⟨rfl, hb10⟩
          have HB10 := Lib.hid (HB9.out.trans (hb10.mono HB9.out.size))
          refine hK.out _ _ ⟨HK8.out.after HB10.out, HQ8.out.after HB10.out⟩ ?_
          clear hK K hb10
          try simp only [Act.put, List.setIfInBounds_toArray, List.set_cons_zero, List.set_cons_succ]
          repeat (first
            | (refine wpTr_fskip (by simp only [List.getElem?_toArray, List.getElem?_cons_zero, List.getElem?_cons_succ]; rfl) (by rfl) ?_
               simp only [Act.put, List.setIfInBounds_toArray, List.set_cons_zero, List.set_cons_succ])
            | (refine wpTr_float (v := ?_) (by simp only [List.getElem?_toArray, List.getElem?_cons_zero, List.getElem?_cons_succ]; rfl) (by rfl) (fun w' hS => ?_) ?_
               rotate_left
               ((skip); go_simp; first | done | rfl)
               simp only [Act.put, List.setIfInBounds_toArray, List.set_cons_zero, List.set_cons_succ]))
          refine wpTr_one ?_
          refine stepTr_K (by simp only [List.getElem?_toArray, List.getElem?_cons_zero, List.getElem?_cons_succ]; rfl) (by rfl) (fun K hK => ?_)
          go_simp
          refine (alive54_any w10).mono ?_
          rintro e w11 ⟨rfl, hb11⟩
          have HB11 := Lib.hid (HB10.out.trans (hb11.mono HB10.out.size))
          refine hK.out _ _ ⟨HK8.out.after HB11.out, HQ8.out.after HB11.out⟩ ?_
          clear hK K hb11
          try simp only [Act.put, List.setIfInBounds_toArray, List.set_cons_zero, List.set_cons_succ]
          repeat (first
            | (refine wpTr_fskip (by simp only [List.getElem?_toArray, List.getElem?_cons_zero, List.getElem?_cons_succ]; rfl) (by rfl) ?_
               simp only [Act.put, List.setIfInBounds_toArray, List.set_cons_zero, List.set_cons_succ])
            | (refine wpTr_float (v := ?_) (by simp only [List.getElem?_toArray, List.getElem?_cons_zero, List.getElem?_cons_succ]; rfl) (by rfl) (fun w' hS => ?_) ?_
               rotate_left
               ((skip); go_simp; first | done | rfl)
               simp only [Act.put, List.setIfInBounds_toArray, List.set_cons_zero, List.set_cons_succ]))
          refine wpTr_done ?_
          have HBF := Lib.hid (HB8.out.trans (HB11.out.mono HB8.out.size))
          go_wp2
          go_ret
          exact ⟨rfl, HBF.out⟩
        · obtain ⟨bn, hbn⟩ : ∃ z, bndL p t X7 = z := ⟨_, rfl⟩
          obtain ⟨Nn, hNn⟩ : ∃ z, bn.length = z := ⟨_, rfl⟩
          obtain ⟨nx, hnx⟩ : ∃ z, X7.length = z := ⟨_, rfl⟩
          have hNnl := bnd_len p t X7
          rw [hbn, hNn, hnx] at hNnl
          rw [HBO.out, hbn] at hlo hhi
          rw [hnx] at hx7 hhi
          rw [HM.out] at hhi
          have hi_le : b7 ≤ nx := hhi.2.1
          have hi_ge : i7 + m ≤ b7 := hhi.1
          have lo_le : a7 ≤ i7 := hlo.1
          have HLO : Hid (∀ q : Nat, q < a7 → decide ((q : Int) ∈ bn) = decide ((q : Int) ∈ bo)) := Lib.hid (fun q hq => by
            have := hlo.2.1 q hq
            unfold difN at this
            have := Classical.not_not.1 this
            exact decide_eq_decide.2 this.symm)
          have HHI : Hid (∀ q : Nat, b7 < q → q ≤ nx → decide ((q : Int) - (m : Int) + (d7 : Int) ∈ bo) = decide ((q : Int) ∈ bn)) := Lib.hid (fun q h1 h2 => by
            have := hhi.2.2.1 q h1 h2
            unfold difN at this
            have := Classical.not_not.1 this
            have e : (q : Int) - (m : Int) + (d7 : Int) = (q : Int) - ((m : Int) - (d7 : Int)) := by omega
            rw [e]
            exact decide_eq_decide.2 this)
          have hd20 : d7 ≤ 20 := by rw [HN.out] at hid7; omega
          have hi20 : i7 ≤ 20 := by rw [HN.out] at hid7; omega
          subst ha7 hd7'
          have HXN := Lib.hid hnx
          have HNN := Lib.hid hNn
          have CB7 := docB_any w4.heap.size D uv7 p t X7 U7 
          clear hid7 hX7 hlo hhi
          obtain ⟨w8, hw8, HC8, HQ8⟩ := boxV w7 52 #[.int .i64 (a7 : Int), .int .i64 (b7 : Int)]
          have HB8 := Lib.hid (HB7.out.trans (HC8.out.mono HB7.out.size))
          have HD8 := Lib.hid (HD7.out.after HC8.out)
          have HE8 := Lib.hid (HE7.out.after HC8.out)
          have HRO8 := Lib.hid ((HRO7.out.below HC8.out).lt)
          obtain ⟨gq, hgq⟩ : ∃ z, z = w7.heap.size := ⟨_, rfl⟩
          rw [← hgq] at HQ8
          have CB8 := docB_any w4.heap.size D uv7 p t X7 U7 w8 HD8.out.1 (by omega)
          unfold RetInts at CB8
          rw [hbn, hNn] at CB8
          replace CB8 := Lib.hid CB8
          clear hbn hNn hnx CB7
          go_upto_region 10 with fail
          rw [← hw8, ← hgq]
          clear hw8 hgq
          go_wp2_with fail
          refine CB8.out.mono ?_
          rintro e w9 ⟨An, cn, rfl, -, -, hr9, -, hb9⟩
          have HB9 := Lib.hid (HB8.out.trans (hb9.mono HB8.out.size))
          have HD9 := Lib.hid (HD8.out.after hb9)
          have HE9 := Lib.hid (HE8.out.after hb9)
          have HQ9 := Lib.hid (HQ8.out.after hb9)
          have HRO9 := Lib.hid ((HRO8.out.below hb9).lt)
          have HRN9 := Lib.hid hr9
          clear CB8 hb9 hr9
          have CT := fun (u : World) (hu : Below w9.heap.size w9 u) => docT_any w4.heap.size D uv7 p t X7 U7 u (HD9.out.1.after hu) (by rw [HXN.out]; omega)
          unfold RetInts at CT
          rw [HXN.out] at CT
          replace CT := Lib.hid CT
          have g0 : decide ((a7 : Int) < 0) = false := decide_eq_false (by omega)
          have g1 : decide ((i7 : Int) < (a7 : Int)) = false := decide_eq_false (by omega)
          have g1' : decide (i7 < a7) = false := decide_eq_false (by omega)
          have g2w : IntKind.i64.wrap ((i7 : Int) + (m : Int)) = (i7 : Int) + (m : Int) := Go.IntWalk.i64_in _ (by omega)
          have g2 : decide ((b7 : Int) < (i7 : Int) + (m : Int)) = false := decide_eq_false (by omega)
          have g2' : decide (b7 < i7 + m) = false := decide_eq_false (by omega)
          have g3 : decide ((nx : Int) < (b7 : Int)) = false := decide_eq_false (by omega)
          have g3' : decide (nx < b7) = false := decide_eq_false (by omega)
          go_upto_region 11 with fail
          refine wp_region_tree (fun w' => Blk w' ge 46 #[.int .i64 (i7 : Int), .int .i64 (d7 : Int), .slice A m c] ∧ Blk w' gq 52 #[.int .i64 (a7 : Int), .int .i64 (b7 : Int)]) (.float 0 (.float 1 (.float 2 (.float 3 (.float 4 (.float 5 (.float 6 (.float 7 (.float 8 (.float 9 (.float 10 (.float 11 (.float 12 (.float 13 (.float 14 (.float 15 (.float 16 (.float 17 (.float 18 (.float 19 (.float 20 (.float 21 (.float 22 (.float 23 (.float 24 (.one 25 (.float 26 (.float 27 (.float 28 .done))))))))))))))))))))))))))))) (by kernel_rfl) (by kernel_rfl) (fun _ _ d _ _ h => by cases d <;> exact h) ⟨HE9.out.drew, HQ9.out.drew⟩ ?_
          repeat (first
            | (refine wpTr_fskip (by simp only [List.getElem?_toArray, List.getElem?_cons_zero, List.getElem?_cons_succ]; rfl) (by rfl) ?_
               simp only [Act.put, List.setIfInBounds_toArray, List.set_cons_zero, List.set_cons_succ])
            | (refine wpTr_float (v := ?_) (by simp only [List.getElem?_toArray, List.getElem?_cons_zero, List.getElem?_cons_succ]; rfl) (by rfl) (fun w' hS => ?_) ?_
               rotate_left
               ((obtain ⟨hS1, hS2⟩ := hS; obtain ⟨q0, q1, q2⟩ := hS1.cells3; have ql := hS1.lt; obtain ⟨r0, r1, rl⟩ := blk2 hS2); go_simp; first | done | rfl)
               simp only [Act.put, List.setIfInBounds_toArray, List.set_cons_zero, List.set_cons_succ]))
          refine wpTr_one ?_
          refine stepTr_K (by simp only [List.getElem?_toArray, List.getElem?_cons_zero, List.getElem?_cons_succ]; rfl) (by rfl) (fun K hK => ?_)
          go_simp
          refine (CT.out w9.drew (Below.refl _ _).drew).mono ?_
          rintro e w10 ⟨A10, c10, rfl, -, -, hr10, -, hb10⟩
          have HB10 : Hid (Below w9.heap.size w9 w10) := (Below.refl _ _).drew.trans hb10
          refine hK.out _ _ ⟨HE9.out.after HB10.out, HQ9.out.after HB10.out⟩ ?_
          clear hK K hr10 hb10
          try simp only [Act.put, List.setIfInBounds_toArray, List.set_cons_zero, List.set_cons_succ]
          repeat (first
            | (refine wpTr_fskip (by simp only [List.getElem?_toArray, List.getElem?_cons_zero, List.getElem?_cons_succ]; rfl) (by rfl) ?_
               simp only [Act.put, List.setIfInBounds_toArray, List.set_cons_zero, List.set_cons_succ])
            | (refine wpTr_float (v := ?_) (by simp only [List.getElem?_toArray, List.getElem?_cons_zero, List.getElem?_cons_succ]; rfl) (by rfl) (fun w' hS => ?_) ?_
               rotate_left
               ((skip); go_simp; first | done | rfl)
               simp only [Act.put, List.setIfInBounds_toArray, List.set_cons_zero, List.set_cons_succ]))
          refine wpTr_done ?_
          have HE10 := Lib.hid (HE9.out.after HB10.out)
          have HQ10 := Lib.hid (HQ9.out.after HB10.out)
          have HRO10 := Lib.hid ((HRO9.out.below HB10.out).lt)
          have HRN10 := Lib.hid ((HRN9.out.below HB10.out).lt)
          clear g0 g1 g1' g2w g2 g2' g3 g3'
          go_upto_region 13 with fail
          go_wp2
          go_loopw [11] (fun i wr => ∃ k : Nat, k ≤ a7 ∧ i = .int .i64 (k : Int) ∧ Hid (Below w10.heap.size w10 wr)) (fun i _ => a7 - (intOf i).toNat)
          case atStart => exact ⟨0, by omega, rfl, Below.refl _ _⟩
          case round =>
            obtain ⟨k, hk, rfl, HR⟩ := hrel
            have HEr := Lib.hid (HE10.out.after HR.out)
            have HQr := Lib.hid (HQ10.out.after HR.out)
            have HROr := Lib.hid ((HRO10.out.below HR.out).lt)
            have HRNr := Lib.hid ((HRN10.out.below HR.out).lt)
            obtain ⟨r0, r1, rl⟩ := blk2 HQr.out
            by_cases hka : k < a7
            · obtain ⟨v, hv⟩ : ∃ v, decide ((k : Int) ∈ bo) = v := ⟨_, rfl⟩
              have HV1 := Lib.hid hv
              have HV2 : Hid (decide ((k : Int) ∈ bn) = v) := Lib.hid ((HLO.out k hka).trans hv)
              have dq : (v != v) = false := by simp
              have dq2 : (v == v) = true := by simp
              clear hv
              go_wp2_with fail
              refine (at54_any Ao No co bo k wr v HROr.out HNO.out (by omega) HV1.out).mono ?_
              rintro e wx ⟨rfl, hwx⟩
              replace hwx := hwx.symm
              subst hwx
              go_wp2_with fail
              refine (at54_any An Nn cn bn k wr v HRNr.out HNN.out (by omega) HV2.out).mono ?_
              rintro e wx ⟨rfl, hwx⟩
              replace hwx := hwx.symm
              subst hwx
              go_wp2
              go_roundw
              case rel => exact ⟨k + 1, by omega, by go_num, HR⟩
              case measure => simp [intOf]; omega
            · obtain ⟨wl, hwl⟩ : ∃ z, z = wr := ⟨_, rfl⟩
              rw [← hwl] at HR HEr HQr HROr HRNr r0 r1 rl ⊢
              clear hwl
              go_wp2
              go_loopw [12] (fun i wr => ∃ k : Nat, b7 + 1 ≤ k ∧ k ≤ nx + 1 ∧ i = .int .i64 (k : Int) ∧ Hid (Below w9.heap.size w9 wr)) (fun i _ => nx + 1 - (intOf i).toNat)
              case atStart => exact ⟨b7 + 1, by omega, by omega, by go_num, Lib.hid (HB10.out.trans (HR.out.mono HB10.out.size))⟩
              case round =>
                obtain ⟨k2, hk2, hk3, rfl, HR2⟩ := hrel
                go_wp2_with fail
                refine (CT.out wr HR2.out).mono ?_
                rintro e w11 ⟨A11, c11, rfl, -, -, -, -, hb11⟩
                have HR3 := Lib.hid (HR2.out.trans (hb11.mono HR2.out.size))
                have HEc := Lib.hid (HE9.out.after HR3.out)
                have HROc := Lib.hid ((HRO9.out.below HR3.out).lt)
                have HRNc := Lib.hid ((HRN9.out.below HR3.out).lt)
                clear hb11
                by_cases hkn : k2 ≤ nx
                · obtain ⟨v, hv⟩ : ∃ v, decide ((k2 : Int) ∈ bn) = v := ⟨_, rfl⟩
                  have HV1 := Lib.hid hv
                  have HV2 : Hid (decide ((k2 : Int) - (m : Int) + (d7 : Int) ∈ bo) = v) := Lib.hid ((HHI.out k2 (by omega) hkn).trans hv)
                  have dq : (v != v) = false := by simp
                  have dq2 : (v == v) = true := by simp
                  have hk400 : k2 ≤ 400 := by omega
                  have k1 : IntKind.i64.wrap ((k2 : Int) - (m : Int)) = (k2 : Int) - (m : Int) := Go.IntWalk.i64_in _ (by omega)
                  have k4 : IntKind.i64.wrap ((k2 : Int) - (m : Int) + (d7 : Int)) = (k2 : Int) - (m : Int) + (d7 : Int) := Go.IntWalk.i64_in _ (by omega)
                  clear hv
                  go_upto_region 21 with fail
                  refine wp_region_tree (fun w' => Blk w' ge 46 #[.int .i64 (i7 : Int), .int .i64 (d7 : Int), .slice A m c]) (.float 0 (.float 1 (.float 3 (.float 4 (.float 5 (.float 6 (.float 7 (.float 8 (.float 9 (.float 10 (.float 11 (.one 2 (.one 12 (.float 13 .done)))))))))))))) (by kernel_rfl) (by kernel_rfl) (fun _ _ d _ _ h => by cases d <;> exact h) HEc.out.drew ?_
                  repeat (first
                    | (refine wpTr_fskip (by simp only [List.getElem?_toArray, List.getElem?_cons_zero, List.getElem?_cons_succ]; rfl) (by rfl) ?_
                       simp only [Act.put, List.setIfInBounds_toArray, List.set_cons_zero, List.set_cons_succ])
                    | (refine wpTr_float (v := ?_) (by simp only [List.getElem?_toArray, List.getElem?_cons_zero, List.getElem?_cons_succ]; rfl) (by rfl) (fun w' hS => ?_) ?_
                       rotate_left
                       ((obtain ⟨q0, q1, q2⟩ := hS.cells3; have ql := hS.lt); go_simp; first | done | rfl)
                       simp only [Act.put, List.setIfInBounds_toArray, List.set_cons_zero, List.set_cons_succ]))
                  refine wpTr_one ?_
                  refine stepTr_K (by simp only [List.getElem?_toArray, List.getElem?_cons_zero, List.getElem?_cons_succ]; rfl) (by rfl) (fun K hK => ?_)
                  go_simp
                  refine (at54_any An Nn cn bn k2 w11.drew v (HRNc.out.drewN 1) HNN.out (by omega) HV1.out).mono ?_
                  rintro e wx ⟨rfl, hwx⟩
                  replace hwx := hwx.symm
                  subst hwx
                  refine hK.out _ _ HEc.out.drew ?_
                  clear hK K
                  try simp only [Act.put, List.setIfInBounds_toArray, List.set_cons_zero, List.set_cons_succ]
                  refine wpTr_one ?_
                  refine stepTr_K (by simp only [List.getElem?_toArray, List.getElem?_cons_zero, List.getElem?_cons_succ]; rfl) (by rfl) (fun K hK => ?_)
                  go_simp
                  refine (at54_any Ao No co bo _ w11.drew v (HROc.out.drewN 1) HNO.out (by omega) HV2.out).mono ?_
                  rintro e wx ⟨rfl, hwx⟩
                  replace hwx := hwx.symm
                  subst hwx
                  refine hK.out _ _ HEc.out.drew ?_
                  clear hK K
                  try simp only [Act.put, List.setIfInBounds_toArray, List.set_cons_zero, List.set_cons_succ]
                  repeat (first
                    | (refine wpTr_fskip (by simp only [List.getElem?_toArray, List.getElem?_cons_zero, List.getElem?_cons_succ]; rfl) (by rfl) ?_
                       simp only [Act.put, List.setIfInBounds_toArray, List.set_cons_zero, List.set_cons_succ])
                    | (refine wpTr_float (v := ?_) (by simp only [List.getElem?_toArray, List.getElem?_cons_zero, List.getElem?_cons_succ]; rfl) (by rfl) (fun w' hS => ?_) ?_
                       rotate_left
                       ((skip); go_simp; first | done | rfl)
                       simp only [Act.put, List.setIfInBounds_toArray, List.set_cons_zero, List.set_cons_succ]))
                  refine wpTr_done ?_
                  have HRd : Hid (Below w9.heap.size w9 w11.drew) := Lib.hid (HR3.out.drew)
                  go_wp2
                  go_roundw
                  case rel => exact ⟨k2 + 1, by omega, by omega, by go_num, HRd⟩
                  case measure => simp [intOf]; omega
                · have HBl := Lib.hid (HB9.out.trans (HR3.out.mono HB9.out.size))
                  go_wp2_with fail
                  refine (alive54_any _).mono ?_
                  rintro e w12 ⟨rfl, hb12⟩
                  have HBF := Lib.hid (HBl.out.trans (hb12.mono HBl.out.size))
                  clear hb12
                  go_wp2
                  go_ret
                  exact ⟨rfl, HBF.out⟩
theorem own : ownKnob Try.prog.godebug = none := by kernel_rfl
theorem laidOut : laidOutB Try.prog = true := by kernel_rfl
set_option maxRecDepth 100000 in
theorem lifted (os : Os) (started : os.Started) (H : Type) (enc : TypeId × Value → H) :
    ReturnsInHanded {} Try.checked os 6 .any (Rows.incbreakRangeSpec.pre6 enc Try.prog Try.f6 Rows.incbreakRangeRow.domain false) (Rows.incbreakRangeSpec.post enc Try.prog Try.f6 false true false false) := by
  refine returnsInHanded_of_change (C := Try.checked) own started (by kernel_rfl) Try.func6
    (ChangeSpec.witness6 (enc := enc) (C := Try.checked) false ⟨#[], #[.agg #[.slice none 0 0, .slice none 0 0, .slice none 0 0, .slice none 0 0, .slice none 0 0, .slice none 0 0, .slice none 0 0, .slice none 0 0, .slice none 0 0], .agg #[.int .i64 0, .int .i64 0, .slice none 0 0]], []⟩ 8 (by kernel_rfl) (by kernel_rfl) (by kernel_rfl) (by kernel_rfl)) ?_
  intro W base args ds gs before hval0 hW hcnd _
  have hval : ∀ (j : Nat) t v, Try.f6.params[j]? = some t → args[j]? = some v → Value.okWide Try.prog W .any base t v := hval0
  have hW' := hW
  obtain ⟨p, q, hA0, hV, rfl, hfz, hnd⟩ := hW
  have hA : DataW.TrodAll enc Try.prog W 0 (fun _ => true) true Try.f6.params.toList args.toList ds p := hA0
  rw [Try.params6] at hA hval
  obtain ⟨v0, v1, d0, d1, p0, p1, rfl, rfl, rfl, h0, h1⟩ := trodAll_two hA
  obtain ⟨rfl, rfl⟩ := trodVars_none hV
  obtain ⟨xp0, q0, y0, t0, A0, c0, X0, rfl, hP0, hT0, hc0, hm0, hR0⟩ := open_start54 (hval 0 33 v0 rfl rfl) h0
  obtain ⟨a1, b1, A1, c1, l1, rfl, hc1, hm1, hR1⟩ := open_edit54 (hval 1 46 v1 rfl rfl) h1
  refine (walk W xp0 q0 hP0 y0 t0 hT0 A0 c0 X0 hc0 hm0 hR0 a1 b1 A1 c1 l1 hc1 hm1 hR1).mono fun e W' ⟨he, hb⟩ => ⟨_, he, ?_⟩
  exact law_post laidOut (by rw [Try.params6]; exact of_decide_eq_true (by kernel_rfl)) rfl rfl Try.underlying4 hW' rfl hb
theorem holds : Rows.IncbreakRangeSaid :=
  OpenClaim.holds_of_wide 6 Try.f6 rfl rfl rfl rfl rfl rfl rfl ⟨rfl, rfl, rfl, rfl, rfl⟩ rfl rfl rfl rfl rfl (by kernel_rfl) Try.func6 (by kernel_rfl)
    (of_decide_eq_true (by kernel_rfl)) (by unfold Func.isWrapper; first | (rw [if_pos (by decide +kernel)]; kernel_rfl) | (rw [if_neg (by decide +kernel)]; exact ⟨rfl, rfl⟩))
    (fun os started H enc _ => lifted os started H enc)
end Go.Proofs.Ytkpblieanejmeaa.LRange
namespace Go.Proofs.Ytkpblieanejmeaa
theorem incbreakRange_holds : Rows.IncbreakRangeSaid := LRange.holds
end Go.Proofs.Ytkpblieanejmeaa
