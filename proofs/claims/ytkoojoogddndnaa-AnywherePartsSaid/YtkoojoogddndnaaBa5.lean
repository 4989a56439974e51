/-
  ref31.Start.
  anywhere.Start (printed by ba6.py).
  ref31.State.
  anywhere.State .
-/
import Derived.Test.YtkoojoogddndnaaBa1
import Derived.WalkMore
namespace Go.Proofs.Ytkoojoogddndnaa
open Go.RowKit Go.UtYtkoojoogddndnaa
set_option maxRecDepth 100000 in
set_option maxHeartbeats 2000000 in
theorem rstart_any (x : TA) (t : BT) (A : Option Addr) (c : Nat) (l : List Int) (a : Int) (w : World) (h : TabAt w w.heap.size x t) (hsm : t.cls.length ≤ 1000 ∧ t.act.length ≤ 1000) (hl : Row w w.heap.size A (ints l)) (hll : l.length ≤ 100000) (r0 : Nat) (r1 : Int)
    (hv : (0 ≤ a ∧ a ≤ (l.length : Int)) ∧ fitsL t l ∧ validT t → (r0, r1) = startN t.ln l a.toNat) (hnv : ¬ ((0 ≤ a ∧ a ≤ (l.length : Int)) ∧ fitsL t l ∧ validT t) → r0 = 0 ∧ r1 = 0) :
    Calls Try.prog 16 #[x.val t, .slice A l.length c, .int .i64 a] w fun e w' => e = .returned (.tuple #[.int .i64 (r0 : Int), .int .i64 r1]) ∧ Below w.heap.size w w' := by
  have CU := Lib.hid (fun (u : World) (hu : Below w.heap.size w u) (v : Bool) (hv' : v = true ↔ (0 ≤ a ∧ a ≤ (l.length : Int)) ∧ fitsL t l ∧ validT t) => usable31_any x t A c l a u (h.below hu).lt hsm (hl.below hu).lt hll v hv')
  have CS := Lib.hid (fun (u : World) (hu : Below w.heap.size w u) (hs : soundP t.ln t.lm t.cls.length t.act.length) (p q : Nat) (h2 : p < t.cls.length) (h3 : q < t.cls.length) => single_any x.ln x.lm x.cln x.clm t.lm.length t.cls.length t.act.length t.ln t.lm p q u ((h.below hu).lt).2.2.1.1.1 hs h2 h3)
  unfold TA.val at CU ⊢
  have HV := Lib.hid hv
  have HNV := Lib.hid hnv
  have HL := Lib.hid hl
  obtain ⟨w1, hw1, HB1, HK1⟩ := boxT w 28 x t
  obtain ⟨q0, q1, q2, q3, q4, q5, ql⟩ := tab6 HK1.out
  obtain ⟨n, hn⟩ : ∃ n, l.length = n := ⟨_, rfl⟩
  have HN := Lib.hid hn
  rw [hn] at hll HV HNV CU
  rw [hn]
  clear h hv hl hn hnv
  by_cases gv : (0 ≤ a ∧ a ≤ (n : Int)) ∧ fitsL t l ∧ validT t
  case neg =>
    obtain ⟨rfl, rfl⟩ := HNV.out gv
    go_enter Try.func16, Try.ntmps16
    go_upto_region 1 with fail
    rw [← hw1]
    clear hw1
    go_wp2_with fail
    refine (CU.out w1 HB1.out false ⟨fun h => (by cases h), fun h => absurd h gv⟩).mono ?_
    rintro e w2 ⟨rfl, hb2⟩
    have HB2 := Lib.hid (HB1.out.trans (hb2.mono HB1.out.size))
    clear hb2
    go_wp2
    go_ret2
    exact ⟨rfl, HB2.out⟩
  case pos =>
    obtain ⟨m, rfl⟩ : ∃ m : Nat, a = (m : Int) := ⟨a.toNat, by omega⟩
    have hmn : m ≤ n := by omega
    have HR : Hid ((r0, r1) = startN t.ln l m) := Lib.hid (by have := HV.out gv; simpa using this)
    have HG := Lib.hid gv
    clear gv
    go_enter Try.func16, Try.ntmps16
    go_upto_region 1 with fail
    rw [← hw1]
    clear hw1
    go_wp2_with fail
    refine (CU.out w1 HB1.out true ⟨fun _ => HG.out, fun _ => rfl⟩).mono ?_
    rintro e w2 ⟨rfl, hb2⟩
    have HB2 := Lib.hid (HB1.out.trans (hb2.mono HB1.out.size))
    have HK2 := Lib.hid (HK1.out.after hb2)
    have hbs2 := HB2.out.size
    clear hb2 q0 q1 q2 q3 q4 q5 ql
    go_wp2
    go_loopw [8] (fun i wr => ∃ j : Nat, j ≤ m ∧ i = .int .i64 (j : Int) ∧ Hid ((r0, r1) = startN t.ln l j) ∧ Hid (Below w2.heap.size w2 wr)) (fun i _ => (intOf i).toNat)
    case atStart => exact ⟨m, Nat.le_refl _, rfl, HR, Below.refl _ _⟩
    case round =>
      obtain ⟨j, hj, rfl, HJ, HB⟩ := hrel
      have HBw := Lib.hid (HB2.out.trans (HB.out.mono hbs2))
      have HKr := Lib.hid (HK2.out.after HB.out)
      by_cases hj2 : 2 ≤ j
      · obtain ⟨i, rfl⟩ : ∃ i, j = i + 2 := ⟨j - 2, by omega⟩
        obtain ⟨b, o, y, rfl, hb, hy, cy⟩ := (HL.out.below HBw.out).at_int (k := i + 1) (by rw [HN.out]; omega)
        obtain ⟨b', o', z, e, hb', hz, cz⟩ := (HL.out.below HBw.out).at_int (k := i) (by rw [HN.out]; omega)
        cases e
        have HY := HG.out.2.1 y (List.mem_of_getElem? hy.out)
        have HZ := HG.out.2.1 z (List.mem_of_getElem? hz.out)
        obtain ⟨yn, rfl⟩ : ∃ k : Nat, y = (k : Int) := ⟨y.toNat, by omega⟩
        obtain ⟨zn, rfl⟩ : ∃ k : Nat, z = (k : Int) := ⟨z.toNat, by omega⟩
        have gy : yn < t.cls.length := by omega
        have gz : zn < t.cls.length := by omega
        have hso := HG.out.2.2.2.2.2.1
        have HAF := (aft_fit hso (s := 0) (x := zn) (y := yn) (by have := hso.1.1; omega) gz gy).choose_spec.2.2
        have HST : Hid (startN t.ln l (i + 2) = if sngB t.ln zn yn then (i + 2, aft t.ln 0 zn yn) else startN t.ln l (i + 1)) := Lib.hid (by
          conv => lhs; unfold startN
          rw [List.getD_eq_getElem?_getD, List.getD_eq_getElem?_getD, hy.out, hz.out]
          rfl)
        have CJ := fun (u : World) (hu : Below w.heap.size w u) => CS.out u hu hso zn yn gz gy
        obtain ⟨sb, hsb⟩ : ∃ sb, sngB t.ln zn yn = sb := ⟨_, rfl⟩
        obtain ⟨f0, hf0⟩ : ∃ f0, aft t.ln 0 zn yn = f0 := ⟨_, rfl⟩
        obtain ⟨v, hv⟩ : ∃ v, (if sb then f0 else -1) = v := ⟨_, rfl⟩
        rw [hsb, hf0] at HST
        simp only [hsb, hf0, hv] at CJ
        replace CJ := Lib.hid CJ
        have HV2 := Lib.hid hv
        have HF0 : Hid (0 ≤ f0) := Lib.hid (by rw [← hf0]; simpa using HAF.1)
        clear hv hsb hf0 HAF hso HY HZ
        have hbl : b < wr.heap.size := by have := HBw.out.size; omega
        have s1 : (i : Int) + 2 - 2 = (i : Int) := by omega
        have s2 : (i : Int) + 2 - 1 = (i : Int) + 1 := by omega
        have hin : i + 2 ≤ n := by omega
        have gi1 : i < n := by omega
        have gi2 : i + 1 < n := by omega
        have gi3 : (i : Int) < (n : Int) := by omega
        have gi4 : (i : Int) + 1 < (n : Int) := by omega
        have gi5 : (0 : Int) ≤ (i : Int) + 1 := by omega
        have gi6 : ((i : Int) + 1).toNat = i + 1 := by omega
        have wr1 : IntKind.i64.wrap (i : Int) = (i : Int) := IntWalk.i64_in _ (by omega)
        have wr2 : IntKind.i64.wrap ((i : Int) + 1) = (i : Int) + 1 := IntWalk.i64_in _ (by omega)
        go_wp2
        have sc : (w.heap.size ≤ wr.heap.size) := HBw.out.size
        refine wp_region_tree (fun w' => (Blk w' w.heap.size 28 (x.cs t) ∧ w'.cell? ⟨b, o + i, none⟩ = some (.int .i64 (zn : Int)) ∧ w'.cell? ⟨b, o + (i + 1), none⟩ = some (.int .i64 (yn : Int)) ∧ b < w'.heap.size) ∧ Below w.heap.size w w') (.float 0 (.float 1 (.float 2 (.float 3 (.float 4 (.float 5 (.float 6 (.float 7 (.float 8 (.float 9 (.float 10 (.float 11 (.one 12 (.float 13 .done)))))))))))))) (by kernel_rfl) (by kernel_rfl) (fun _ _ d _ _ h => by cases d <;> exact h) ⟨⟨HKr.out.drew, cz, cy, hbl⟩, HBw.out.drew⟩ ?_
        repeat (first
          | (refine wpTr_fskip (by simp only [List.getElem?_toArray, List.getElem?_cons_zero, List.getElem?_cons_succ]; rfl) (by rfl) ?_
             simp only [Act.put, List.setIfInBounds_toArray, List.set_cons_zero, List.set_cons_succ])
          | (refine wpTr_float (v := ?_) (by simp only [List.getElem?_toArray, List.getElem?_cons_zero, List.getElem?_cons_succ]; rfl) (by rfl) (fun w' hS => ?_) ?_
             rotate_left
             ((obtain ⟨⟨hSK, ez', ey', eb'⟩, _⟩ := hS; obtain ⟨e0', e1', e2', e3', e4', e5', el'⟩ := tab6 hSK); go_simp; first | done | rfl)
             simp only [Act.put, List.setIfInBounds_toArray, List.set_cons_zero, List.set_cons_succ]))
        refine wpTr_one ?_
        refine stepTr_K (by simp only [List.getElem?_toArray, List.getElem?_cons_zero, List.getElem?_cons_succ]; rfl) (by rfl) (fun K hK => ?_)
        go_simp
        refine (CJ.out wr.drew HBw.out.drew).mono ?_
        rintro e w4 ⟨rfl, hb4⟩
        have HBL4 : Hid (Below wr.heap.size wr w4) := (Below.refl _ _).drew.trans hb4
        have HBw4 := Lib.hid (HBw.out.trans (HBL4.out.mono HBw.out.size))
        have HB4 : Hid (Below w2.heap.size w2 w4) := HB.out.trans (HBL4.out.mono HB.out.size)
        have HK4 := Lib.hid (HKr.out.after HBL4.out)
        refine hK.out _ _ ⟨⟨HK4.out, by rw [HBL4.out.cell hbl]; exact cz, by rw [HBL4.out.cell hbl]; exact cy, Nat.lt_of_lt_of_le hbl HBL4.out.size⟩, HBw4.out⟩ ?_
        clear hK K hb4
        try simp only [Act.put, List.setIfInBounds_toArray, List.set_cons_zero, List.set_cons_succ]
        repeat (first
          | (refine wpTr_fskip (by simp only [List.getElem?_toArray, List.getElem?_cons_zero, List.getElem?_cons_succ]; rfl) (by rfl) ?_
             simp only [Act.put, List.setIfInBounds_toArray, List.set_cons_zero, List.set_cons_succ])
          | (refine wpTr_float (v := ?_) (by simp only [List.getElem?_toArray, List.getElem?_cons_zero, List.getElem?_cons_succ]; rfl) (by rfl) (fun w' hS => ?_) ?_
             rotate_left
             ((skip); go_simp; first | done | rfl)
             simp only [Act.put, List.setIfInBounds_toArray, List.set_cons_zero, List.set_cons_succ]))
        refine wpTr_done ?_
        cases sb
        · obtain rfl : v = -1 := HV2.out.symm
          have HJ' : Hid ((r0, r1) = startN t.ln l (i + 1)) := Lib.hid (by rw [HJ.out, HST.out]; rfl)
          go_wp2
          go_roundw
          case rel => exact ⟨i + 1, by omega, by go_num, HJ', HB4⟩
          case measure => simp [intOf] <;> omega
        · obtain rfl : v = f0 := HV2.out.symm
          have HE : Hid (r0 = i + 2 ∧ r1 = v) := Lib.hid (by have := HJ.out; rw [HST.out] at this; simpa using this)
          obtain ⟨rfl, rfl⟩ := HE.out
          have dv : 0 ≤ r1 := HF0.out
          have dv' : decide (0 ≤ r1) = true := decide_eq_true dv
          go_wp2
          go_ret2
          exact ⟨rfl, HBw4.out⟩
      · have HE : Hid (r0 = 0 ∧ r1 = 0) := Lib.hid (by
          have := HJ.out
          rcases j with _ | _ | j
          · simpa [startN] using this
          · simpa [startN] using this
          · omega)
        obtain ⟨rfl, rfl⟩ := HE.out
        go_wp2
        go_ret2
        exact ⟨rfl, HBw.out⟩
end Go.Proofs.Ytkoojoogddndnaa
namespace Go.Proofs.Ytkoojoogddndnaa
open Go.RowKit Go.UtYtkoojoogddndnaa
set_option maxRecDepth 100000 in
set_option maxHeartbeats 2000000 in
theorem start_any (x : TA) (t : BT) (A : Option Addr) (c : Nat) (l : List Int) (a : Int) (w : World) (h : TabAt w w.heap.size x t) (hsm : t.cls.length ≤ 1000 ∧ t.act.length ≤ 1000) (hl : Row w w.heap.size A (ints l)) (hll : l.length ≤ 100000) (r0 : Nat) (r1 : Int)
    (hv : (0 ≤ a ∧ a ≤ (l.length : Int)) ∧ fitsL t l ∧ validT t → (r0, r1) = startN t.ln l a.toNat) (hnv : ¬ ((0 ≤ a ∧ a ≤ (l.length : Int)) ∧ fitsL t l ∧ validT t) → r0 = 0 ∧ r1 = 0) :
    Calls Try.prog 15 #[x.val t, .slice A l.length c, .int .i64 a] w fun e w' => e = .returned (.tuple #[.int .i64 (r0 : Int), .int .i64 r1]) ∧ Below w.heap.size w w' := by
  have CU := Lib.hid (fun (u : World) (hu : Below w.heap.size w u) (v : Bool) (hv' : v = true ↔ (0 ≤ a ∧ a ≤ (l.length : Int)) ∧ fitsL t l ∧ validT t) => permitted_any x t A c l a u (h.below hu).lt hsm (hl.below hu).lt hll v hv')
  have CS := Lib.hid (fun (u : World) (hu : Below w.heap.size w u) (hs : soundP t.ln t.lm t.cls.length t.act.length) (p q : Nat) (h2 : p < t.cls.length) (h3 : q < t.cls.length) => reached_any x.ln x.lm x.cln x.clm t.lm.length t.cls.length t.act.length t.ln t.lm p q u ((h.below hu).lt).2.2.1.1.1 hs h2 h3)
  unfold TA.val at CU ⊢
  have HV := Lib.hid hv
  have HNV := Lib.hid hnv
  have HL := Lib.hid hl
  obtain ⟨w1, hw1, HB1, HK1⟩ := boxT w 28 x t
  obtain ⟨q0, q1, q2, q3, q4, q5, ql⟩ := tab6 HK1.out
  obtain ⟨n, hn⟩ : ∃ n, l.length = n := ⟨_, rfl⟩
  have HN := Lib.hid hn
  rw [hn] at hll HV HNV CU
  rw [hn]
  clear h hv hl hn hnv
  by_cases gv : (0 ≤ a ∧ a ≤ (n : Int)) ∧ fitsL t l ∧ validT t
  case neg =>
    obtain ⟨rfl, rfl⟩ := HNV.out gv
    go_enter Try.func15, Try.ntmps15
    go_upto_region 1 with fail
    rw [← hw1]
    clear hw1
    go_step3
    go_wp2_with fail
    refine (CU.out w1 HB1.out false ⟨fun h => (by cases h), fun h => absurd h gv⟩).mono ?_
    rintro e w2 ⟨rfl, hb2⟩
    have HB2 := Lib.hid (HB1.out.trans (hb2.mono HB1.out.size))
    clear hb2
    go_wp2
    first | rw [Exit.noGoto_ret] | skip
    go_ret2
    exact ⟨rfl, HB2.out⟩
  case pos =>
    obtain ⟨m, rfl⟩ : ∃ m : Nat, a = (m : Int) := ⟨a.toNat, by omega⟩
    have hmn : m ≤ n := by omega
    have HR : Hid ((r0, r1) = startN t.ln l m) := Lib.hid (by have := HV.out gv; simpa using this)
    have HG := Lib.hid gv
    clear gv
    go_enter Try.func15, Try.ntmps15
    go_upto_region 1 with fail
    rw [← hw1]
    clear hw1
    go_step3
    go_wp2_with fail
    refine (CU.out w1 HB1.out true ⟨fun _ => HG.out, fun _ => rfl⟩).mono ?_
    rintro e w2 ⟨rfl, hb2⟩
    have HB2 := Lib.hid (HB1.out.trans (hb2.mono HB1.out.size))
    have HK2 := Lib.hid (HK1.out.after hb2)
    have hbs2 := HB2.out.size
    clear hb2 q0 q1 q2 q3 q4 q5 ql
    go_wp2
    go_step3
    go_wp2
    go_loopw [8, 9, 10] (fun k8 k9 i wr => k8 = .int .i64 0 ∧ k9 = .int .i64 0 ∧ ∃ j : Nat, j ≤ m ∧ i = .int .i64 (j : Int) ∧ Hid ((r0, r1) = startN t.ln l j) ∧ Hid (Below w2.heap.size w2 wr)) (fun _ _ i _ => (intOf i).toNat)
    case atStart => exact ⟨rfl, rfl, m, Nat.le_refl _, rfl, HR, Below.refl _ _⟩
    case round =>
      obtain ⟨rfl, rfl, j, hj, rfl, HJ, HB⟩ := hrel
      have HBw := Lib.hid (HB2.out.trans (HB.out.mono hbs2))
      have HKr := Lib.hid (HK2.out.after HB.out)
      by_cases hj2 : 2 ≤ j
      · obtain ⟨i, rfl⟩ : ∃ i, j = i + 2 := ⟨j - 2, by omega⟩
        obtain ⟨b, o, y, rfl, hb, hy, cy⟩ := (HL.out.below HBw.out).at_int (k := i + 1) (by rw [HN.out]; omega)
        obtain ⟨b', o', z, e, hb', hz, cz⟩ := (HL.out.below HBw.out).at_int (k := i) (by rw [HN.out]; omega)
        cases e
        have HY := HG.out.2.1 y (List.mem_of_getElem? hy.out)
        have HZ := HG.out.2.1 z (List.mem_of_getElem? hz.out)
        obtain ⟨yn, rfl⟩ : ∃ k : Nat, y = (k : Int) := ⟨y.toNat, by omega⟩
        obtain ⟨zn, rfl⟩ : ∃ k : Nat, z = (k : Int) := ⟨z.toNat, by omega⟩
        have gy : yn < t.cls.length := by omega
        have gz : zn < t.cls.length := by omega
        have hso := HG.out.2.2.2.2.2.1
        have HAF := (aft_fit hso (s := 0) (x := zn) (y := yn) (by have := hso.1.1; omega) gz gy).choose_spec.2.2
        have HST : Hid (startN t.ln l (i + 2) = if sngB t.ln zn yn then (i + 2, aft t.ln 0 zn yn) else startN t.ln l (i + 1)) := Lib.hid (by
          conv => lhs; unfold startN
          rw [List.getD_eq_getElem?_getD, List.getD_eq_getElem?_getD, hy.out, hz.out]
          rfl)
        have CJ := fun (u : World) (hu : Below w.heap.size w u) => CS.out u hu hso zn yn gz gy
        obtain ⟨sb, hsb⟩ : ∃ sb, sngB t.ln zn yn = sb := ⟨_, rfl⟩
        obtain ⟨f0, hf0⟩ : ∃ f0, aft t.ln 0 zn yn = f0 := ⟨_, rfl⟩
        obtain ⟨v, hv⟩ : ∃ v, (if sb then f0 else 0) = v := ⟨_, rfl⟩
        rw [hsb, hf0] at HST
        simp only [hsb, hf0, hv] at CJ
        replace CJ := Lib.hid CJ
        have HV2 := Lib.hid hv
        have HF0 : Hid (0 ≤ f0) := Lib.hid (by rw [← hf0]; simpa using HAF.1)
        clear hv hsb hf0 HAF hso HY HZ
        have hbl : b < wr.heap.size := by have := HBw.out.size; omega
        have s1 : (i : Int) + 2 - 2 = (i : Int) := by omega
        have s2 : (i : Int) + 2 - 1 = (i : Int) + 1 := by omega
        have hin : i + 2 ≤ n := by omega
        have gi1 : i < n := by omega
        have gi2 : i + 1 < n := by omega
        have gi3 : (i : Int) < (n : Int) := by omega
        have gi4 : (i : Int) + 1 < (n : Int) := by omega
        have gi5 : (0 : Int) ≤ (i : Int) + 1 := by omega
        have gi6 : ((i : Int) + 1).toNat = i + 1 := by omega
        have wr1 : IntKind.i64.wrap (i : Int) = (i : Int) := IntWalk.i64_in _ (by omega)
        have wr2 : IntKind.i64.wrap ((i : Int) + 1) = (i : Int) + 1 := IntWalk.i64_in _ (by omega)
        go_wp2
        have sc : (w.heap.size ≤ wr.heap.size) := HBw.out.size
        refine wp_region_tree (fun w' => (Blk w' w.heap.size 28 (x.cs t) ∧ w'.cell? ⟨b, o + i, none⟩ = some (.int .i64 (zn : Int)) ∧ w'.cell? ⟨b, o + (i + 1), none⟩ = some (.int .i64 (yn : Int)) ∧ b < w'.heap.size) ∧ Below w.heap.size w w') (.float 0 (.float 1 (.float 2 (.float 3 (.float 4 (.float 5 (.float 6 (.float 7 (.float 8 (.float 9 (.float 10 (.float 11 (.one 12 (.float 13 (.float 14 (.float 15 (.float 16 (.float 17 .done)))))))))))))))))) (by kernel_rfl) (by kernel_rfl) (fun _ _ d _ _ h => by cases d <;> exact h) ⟨⟨HKr.out.drew, cz, cy, hbl⟩, HBw.out.drew⟩ ?_
        repeat (first
          | (refine wpTr_fskip (by simp only [List.getElem?_toArray, List.getElem?_cons_zero, List.getElem?_cons_succ]; rfl) (by rfl) ?_
             simp only [Act.put, List.setIfInBounds_toArray, List.set_cons_zero, List.set_cons_succ])
          | (refine wpTr_float (v := ?_) (by simp only [List.getElem?_toArray, List.getElem?_cons_zero, List.getElem?_cons_succ]; rfl) (by rfl) (fun w' hS => ?_) ?_
             rotate_left
             ((obtain ⟨⟨hSK, ez', ey', eb'⟩, _⟩ := hS; obtain ⟨e0', e1', e2', e3', e4', e5', el'⟩ := tab6 hSK); go_simp; first | done | rfl)
             simp only [Act.put, List.setIfInBounds_toArray, List.set_cons_zero, List.set_cons_succ]))
        refine wpTr_one ?_
        refine stepTr_K (by simp only [List.getElem?_toArray, List.getElem?_cons_zero, List.getElem?_cons_succ]; rfl) (by rfl) (fun K hK => ?_)
        go_simp
        refine (CJ.out wr.drew HBw.out.drew).mono ?_
        rintro e w4 ⟨rfl, hb4⟩
        have HBL4 : Hid (Below wr.heap.size wr w4) := (Below.refl _ _).drew.trans hb4
        have HBw4 := Lib.hid (HBw.out.trans (HBL4.out.mono HBw.out.size))
        have HB4 : Hid (Below w2.heap.size w2 w4) := HB.out.trans (HBL4.out.mono HB.out.size)
        have HK4 := Lib.hid (HKr.out.after HBL4.out)
        refine hK.out _ _ ⟨⟨HK4.out, by rw [HBL4.out.cell hbl]; exact cz, by rw [HBL4.out.cell hbl]; exact cy, Nat.lt_of_lt_of_le hbl HBL4.out.size⟩, HBw4.out⟩ ?_
        clear hK K hb4
        try simp only [Act.put, List.setIfInBounds_toArray, List.set_cons_zero, List.set_cons_succ]
        repeat (first
          | (refine wpTr_fskip (by simp only [List.getElem?_toArray, List.getElem?_cons_zero, List.getElem?_cons_succ]; rfl) (by rfl) ?_
             simp only [Act.put, List.setIfInBounds_toArray, List.set_cons_zero, List.set_cons_succ])
          | (refine wpTr_float (v := ?_) (by simp only [List.getElem?_toArray, List.getElem?_cons_zero, List.getElem?_cons_succ]; rfl) (by rfl) (fun w' hS => ?_) ?_
             rotate_left
             ((skip); go_simp; first | done | rfl)
             simp only [Act.put, List.setIfInBounds_toArray, List.set_cons_zero, List.set_cons_succ]))
        refine wpTr_done ?_
        cases sb
        · obtain rfl : v = 0 := HV2.out.symm
          have HJ' : Hid ((r0, r1) = startN t.ln l (i + 1)) := Lib.hid (by rw [HJ.out, HST.out]; rfl)
          go_wp2
          go_roundw
          case rel => exact ⟨rfl, rfl, i + 1, by omega, by go_num, HJ', HB4⟩
          case measure => simp [intOf] <;> omega
        · obtain rfl : v = f0 := HV2.out.symm
          have HE : Hid (r0 = i + 2 ∧ r1 = v) := Lib.hid (by have := HJ.out; rw [HST.out] at this; simpa using this)
          obtain ⟨rfl, rfl⟩ := HE.out
          have dv : 0 ≤ r1 := HF0.out
          have dv' : decide (0 ≤ r1) = true := decide_eq_true dv
          go_wp2
          first | rw [Exit.noGoto_ret] | skip
          go_ret2
          exact ⟨rfl, HBw4.out⟩
      · have HE : Hid (r0 = 0 ∧ r1 = 0) := Lib.hid (by
          have := HJ.out
          rcases j with _ | _ | j
          · simpa [startN] using this
          · simpa [startN] using this
          · omega)
        obtain ⟨rfl, rfl⟩ := HE.out
        go_wp2
        first | rw [Exit.noGoto_ret] | skip
        go_ret2
        exact ⟨rfl, HBw.out⟩
end Go.Proofs.Ytkoojoogddndnaa
namespace Go.Proofs.Ytkoojoogddndnaa
open Go.RowKit Go.UtYtkoojoogddndnaa
set_option maxRecDepth 100000 in
set_option maxHeartbeats 2000000 in
theorem rstate_any (x : TA) (t : BT) (A : Option Addr) (c : Nat) (l : List Int) (a : Int) (w : World) (h : TabAt w w.heap.size x t) (hsm : t.cls.length ≤ 1000 ∧ t.act.length ≤ 1000) (hl : Row w w.heap.size A (ints l)) (hll : l.length ≤ 100000) (r1 : Int)
    (hv : (0 ≤ a ∧ a ≤ (l.length : Int)) ∧ fitsL t l ∧ validT t → r1 = runA t.ln 0 (l.take a.toNat)) (hnv : ¬ ((0 ≤ a ∧ a ≤ (l.length : Int)) ∧ fitsL t l ∧ validT t) → r1 = 0) :
    Calls Try.prog 18 #[x.val t, .slice A l.length c, .int .i64 a] w fun e w' => e = .returned (.int .i64 r1) ∧ Below w.heap.size w w' := by
  have CU := Lib.hid (fun (u : World) (hu : Below w.heap.size w u) (v : Bool) (hv' : v = true ↔ (0 ≤ a ∧ a ≤ (l.length : Int)) ∧ fitsL t l ∧ validT t) => usable31_any x t A c l a u (h.below hu).lt hsm (hl.below hu).lt hll v hv')
  have HT := Lib.hid h
  unfold TA.val at CU ⊢
  have HV := Lib.hid hv
  have HNV := Lib.hid hnv
  have HL := Lib.hid hl
  obtain ⟨w1, hw1, HB1, HK1⟩ := boxT w 28 x t
  obtain ⟨q0, q1, q2, q3, q4, q5, ql⟩ := tab6 HK1.out
  obtain ⟨n, hn⟩ : ∃ n, l.length = n := ⟨_, rfl⟩
  have HN := Lib.hid hn
  rw [hn] at hll HV HNV CU
  rw [hn]
  clear h hv hl hn hnv
  by_cases gv : (0 ≤ a ∧ a ≤ (n : Int)) ∧ fitsL t l ∧ validT t
  case neg =>
    obtain rfl := HNV.out gv
    go_enter Try.func18, Try.ntmps18
    go_upto_region 1 with fail
    rw [← hw1]
    clear hw1
    go_wp2_with fail
    refine (CU.out w1 HB1.out false ⟨fun h => (by cases h), fun h => absurd h gv⟩).mono ?_
    rintro e w2 ⟨rfl, hb2⟩
    have HB2 := Lib.hid (HB1.out.trans (hb2.mono HB1.out.size))
    clear hb2
    go_wp2
    go_ret
    exact ⟨rfl, HB2.out⟩
  case pos =>
    obtain ⟨m, rfl⟩ : ∃ m : Nat, a = (m : Int) := ⟨a.toNat, by omega⟩
    have hmn : m ≤ n := by omega
    have HR : Hid (r1 = runA t.ln 0 (l.take m)) := Lib.hid (by have := HV.out gv; simpa using this)
    have HG := Lib.hid gv
    clear gv
    go_enter Try.func18, Try.ntmps18
    go_upto_region 1 with fail
    rw [← hw1]
    clear hw1
    go_wp2_with fail
    refine (CU.out w1 HB1.out true ⟨fun _ => HG.out, fun _ => rfl⟩).mono ?_
    rintro e w2 ⟨rfl, hb2⟩
    have HB2 := Lib.hid (HB1.out.trans (hb2.mono HB1.out.size))
    have HK2 := Lib.hid (HK1.out.after hb2)
    have hbs2 := HB2.out.size
    clear hb2 q0 q1 q2 q3 q4 q5 ql
    obtain ⟨nl, hnl⟩ : ∃ n, t.ln.length = n := ⟨_, rfl⟩
    have HNL := Lib.hid hnl
    clear hnl
    go_wp2
    go_loopw [7, 8] (fun s i wr => ∃ j k : Nat, j ≤ m ∧ i = .int .i64 (j : Int) ∧ s = .int .i64 (k : Int) ∧ Hid ((k : Int) = runA t.ln 0 (l.take j)) ∧ ∃ z, wr = w2.drewN z) (fun _ i _ => m - (intOf i).toNat)
    case atStart => exact ⟨0, 0, Nat.zero_le _, rfl, rfl, Lib.hid (by simp [runA]), 0, rfl⟩
    case round =>
      obtain ⟨j, k, hj, rfl, rfl, HJ, z, hw⟩ := hrel
      by_cases hjm : j < m
      · obtain ⟨b, o, y, rfl, hb, hy, cy⟩ := (HL.out.below HB2.out).at_int (k := j) (by rw [HN.out]; omega)
        have HY := HG.out.2.1 y (List.mem_of_getElem? hy.out)
        obtain ⟨yn, rfl⟩ : ∃ k : Nat, y = (k : Int) := ⟨y.toNat, by omega⟩
        have hso := HG.out.2.2.2.2.2.1
        have hf := runA_fit hso (l.take j) 0 ⟨by omega, by have := hso.1.1; omega⟩ (fun c hc => HG.out.2.1 c (List.mem_of_mem_take hc))
        rw [← HJ.out] at hf
        have hkl : k < t.ln.length := by omega
        obtain ⟨b3, o3, b4, o4, c4, hA, hb3, cc1, hb4, cc2, l1, l2⟩ := aut_at ((HT.out.below HB2.out).2.2.1.1.1) hso (s := k) (c := yn) hkl (by omega)
        obtain ⟨lo, hi⟩ := dl_fit hso (s := (k : Int)) (c := (yn : Int)) ⟨by omega, by omega⟩ HY
        obtain ⟨k', hk'⟩ : ∃ k' : Nat, dl t.ln (k : Int) (yn : Int) = (k' : Int) := ⟨(dl t.ln (k : Int) (yn : Int)).toNat, by omega⟩
        have HJ' : Hid ((k' : Int) = runA t.ln 0 (l.take (j + 1))) := Lib.hid (by
          obtain ⟨g1, g2⟩ := List.getElem?_eq_some_iff.1 hy.out
          rw [List.take_succ_eq_append_getElem g1, g2, runA_snoc, ← HJ.out, hk'])
        rw [hk'] at cc2
        obtain ⟨p0, p1, p2, p3, p4, p5, pl⟩ := tab6 HK2.out
        rw [hA, HNL.out] at p2
        rw [HNL.out] at hkl
        have gyn : yn < t.cls.length := by omega
        obtain ⟨nc, hnc⟩ : ∃ n, t.cls.length = n := ⟨_, rfl⟩
        rw [hnc] at cc1 gyn l1
        have hjn : j < n := by omega
        have hq1 : b < w2.heap.size := by omega
        have hq2 : b3 < w2.heap.size := by omega
        have hq3 : b4 < w2.heap.size := by omega
        clear hso hf HY lo hi hk' hA hnc p0 p1 p3 p4 p5
        subst hw
        go_wp2
        go_quiet (fail)
        go_wp2
        go_roundw
        case rel => exact ⟨j + 1, k', by omega, by go_num, rfl, HJ', _, rfl⟩
        case measure => simp [intOf] <;> omega
      · obtain rfl : j = m := by omega
        have HE : Hid (r1 = (k : Int)) := Lib.hid (by rw [HR.out, HJ.out])
        obtain rfl := HE.out
        subst hw
        go_wp2
        go_ret
        exact ⟨rfl, below_drewN HB2.out _⟩
end Go.Proofs.Ytkoojoogddndnaa
namespace Go.Proofs.Ytkoojoogddndnaa
open Go.RowKit Go.UtYtkoojoogddndnaa
set_option maxRecDepth 100000 in
set_option maxHeartbeats 2000000 in
theorem state_any (x : TA) (t : BT) (A : Option Addr) (c : Nat) (l : List Int) (a : Int) (w : World) (h : TabAt w w.heap.size x t) (hsm : t.cls.length ≤ 1000 ∧ t.act.length ≤ 1000) (hl : Row w w.heap.size A (ints l)) (hll : l.length ≤ 100000) (hlc : l.length ≤ c) (r1 : Int)
    (hv : (0 ≤ a ∧ a ≤ (l.length : Int)) ∧ fitsL t l ∧ validT t → r1 = runA t.ln 0 (l.take a.toNat)) (hnv : ¬ ((0 ≤ a ∧ a ≤ (l.length : Int)) ∧ fitsL t l ∧ validT t) → r1 = 0) :
    Calls Try.prog 17 #[x.val t, .slice A l.length c, .int .i64 a] w fun e w' => e = .returned (.int .i64 r1) ∧ Below w.heap.size w w' := by
  have CU := Lib.hid (fun (u : World) (hu : Below w.heap.size w u) (v : Bool) (hv' : v = true ↔ (0 ≤ a ∧ a ≤ (l.length : Int)) ∧ fitsL t l ∧ validT t) => permitted_any x t A c l a u (h.below hu).lt hsm (hl.below hu).lt hll v hv')
  have HT := Lib.hid h
  have CST := Lib.hid (fun (u : World) (hu : Below w.heap.size w u) (m : Nat) (ha : a = (m : Int)) (hg : (0 ≤ a ∧ a ≤ (l.length : Int)) ∧ fitsL t l ∧ validT t) => start_any x t A c l a u (h.below hu).lt hsm (hl.below hu).lt hll (startN t.ln l m).1 (startN t.ln l m).2 (fun _ => by rw [ha]; simp) (fun hn => absurd hg hn))
  unfold TA.val at CU CST ⊢
  have HV := Lib.hid hv
  have HNV := Lib.hid hnv
  have HL := Lib.hid hl
  obtain ⟨w1, hw1, HB1, HK1⟩ := boxT w 28 x t
  obtain ⟨q0, q1, q2, q3, q4, q5, ql⟩ := tab6 HK1.out
  obtain ⟨n, hn⟩ : ∃ n, l.length = n := ⟨_, rfl⟩
  have HN := Lib.hid hn
  rw [hn] at hll hlc HV HNV CU CST
  rw [hn]
  clear h hv hl hn hnv
  by_cases gv : (0 ≤ a ∧ a ≤ (n : Int)) ∧ fitsL t l ∧ validT t
  case neg =>
    obtain rfl := HNV.out gv
    go_enter Try.func17, Try.ntmps17
    go_upto_region 1 with fail
    rw [← hw1]
    clear hw1
    go_wp2_with fail
    refine (CU.out w1 HB1.out false ⟨fun h => (by cases h), fun h => absurd h gv⟩).mono ?_
    rintro e w2 ⟨rfl, hb2⟩
    have HB2 := Lib.hid (HB1.out.trans (hb2.mono HB1.out.size))
    clear hb2
    go_wp2
    go_ret
    exact ⟨rfl, HB2.out⟩
  case pos =>
    obtain ⟨m, rfl⟩ : ∃ m : Nat, a = (m : Int) := ⟨a.toNat, by omega⟩
    have hmn : m ≤ n := by omega
    have HR : Hid (r1 = runA t.ln 0 (l.take m)) := Lib.hid (by have := HV.out gv; simpa using this)
    have HG := Lib.hid gv
    clear gv
    go_enter Try.func17, Try.ntmps17
    go_upto_region 1 with fail
    rw [← hw1]
    clear hw1
    go_wp2_with fail
    refine (CU.out w1 HB1.out true ⟨fun _ => HG.out, fun _ => rfl⟩).mono ?_
    rintro e w2 ⟨rfl, hb2⟩
    have HB2 := Lib.hid (HB1.out.trans (hb2.mono HB1.out.size))
    have HK2 := Lib.hid (HK1.out.after hb2)
    have hbs2 := HB2.out.size
    clear hb2 q0 q1 q2 q3 q4 q5 ql
    obtain ⟨nl, hnl⟩ : ∃ n, t.ln.length = n := ⟨_, rfl⟩
    have HNL := Lib.hid hnl
    clear hnl
    have HSR := Lib.hid (start_run HG.out.2.2.2.2.2.1 HG.out.2.1 m (by rw [HN.out]; exact hmn))
    have CS2 := CST.out w2 HB2.out m rfl HG.out
    obtain ⟨f, hf⟩ : ∃ f, (startN t.ln l m).1 = f := ⟨_, rfl⟩
    obtain ⟨s, hs⟩ : ∃ s, (startN t.ln l m).2 = s := ⟨_, rfl⟩
    rw [hf, hs] at HSR CS2
    have hfm : f ≤ m := HSR.out.1
    have hfn : f ≤ n := by omega
    have gf1 : (f : Int) ≤ (m : Int) := by omega
    have gm1 : (m : Int) ≤ (n : Int) := by omega
    have gmc : m ≤ c := by omega
    have gmc1 : (m : Int) ≤ (c : Int) := by omega
    replace CS2 := Lib.hid CS2
    clear hf hs
    by_cases hfe : f = m
    case pos =>
      subst hfe
      have HE : Hid (r1 = s) := Lib.hid (by rw [HR.out, HSR.out.2])
      have hz0 : f - f = 0 := by omega
      obtain ⟨q0, q1, q2, q3, q4, q5, ql⟩ := tab6 HK2.out
      go_wp2_with fail
      refine CS2.out.mono ?_
      rintro e w3 ⟨rfl, hb3⟩
      have HB3 := Lib.hid (HB2.out.trans (hb3.mono HB2.out.size))
      have HK3 := Lib.hid (HK2.out.after hb3)
      clear hb3 q0 q1 q2 q3 q4 q5 ql
      go_wp2
      all_goals (
        go_loopw [8, 28] (fun s' i wr => s' = .int .i64 s ∧ i = .int .i64 0 ∧ wr = w3) (fun _ _ _ => 0)
        case atStart => exact ⟨rfl, rfl, rfl⟩
        case round =>
          obtain ⟨rfl, rfl, rfl⟩ := hrel
          go_wp2
          go_ret
          exact ⟨by rw [HE.out]; rfl, HB3.out⟩)
    case neg =>
      obtain ⟨d, hd⟩ : ∃ d, m - f = d := ⟨_, rfl⟩
      have hso0 := HG.out.2.2.2.2.2.1
      have hf0 := runA_fit hso0 (l.take f) 0 ⟨by omega, by have := hso0.1.1; omega⟩ (fun c hc => HG.out.2.1 c (List.mem_of_mem_take hc))
      obtain ⟨k0, rfl⟩ : ∃ k : Nat, s = (k : Int) := ⟨s.toNat, by have := HSR.out.2; omega⟩
      have HK0 : Hid ((k0 : Int) = runA t.ln 0 (l.take (f + 0))) := Lib.hid HSR.out.2
      clear hso0 hf0
      have hcf : ¬ c = f := by omega
      have hcf2 : f < c := by omega
      have hcf3 : ¬ c - f = 0 := by omega
      obtain ⟨b, o, y0, rfl, hb, _, _⟩ := (HL.out.below HB2.out).at_int (k := f) (by rw [HN.out]; omega)
      obtain ⟨q0, q1, q2, q3, q4, q5, ql⟩ := tab6 HK2.out
      go_wp2_with fail
      refine CS2.out.mono ?_
      rintro e w3 ⟨rfl, hb3⟩
      have HB3 := Lib.hid (HB2.out.trans (hb3.mono HB2.out.size))
      have HK3 := Lib.hid (HK2.out.after hb3)
      clear hb3 q0 q1 q2 q3 q4 q5 ql
      go_wp2
      go_loopw [8, 28] (fun s' i wr => ∃ j k : Nat, j ≤ d ∧ i = .int .i64 (j : Int) ∧ s' = .int .i64 (k : Int) ∧ Hid ((k : Int) = runA t.ln 0 (l.take (f + j))) ∧ wr = w3) (fun _ i _ => d - (intOf i).toNat)
      case atStart => exact ⟨0, k0, Nat.zero_le _, rfl, rfl, HK0, rfl⟩
      case round =>
        obtain ⟨j, k, hj, rfl, rfl, HJ, hw⟩ := hrel
        by_cases hjm : j < d
        · obtain ⟨b', o', y, e, hb', hy, cy⟩ := (HL.out.below HB3.out).at_int (k := f + j) (by rw [HN.out]; omega)
          cases e
          have HY := HG.out.2.1 y (List.mem_of_getElem? hy.out)
          obtain ⟨yn, rfl⟩ : ∃ k : Nat, y = (k : Int) := ⟨y.toNat, by omega⟩
          have hso := HG.out.2.2.2.2.2.1
          have hf := runA_fit hso (l.take (f + j)) 0 ⟨by omega, by have := hso.1.1; omega⟩ (fun c hc => HG.out.2.1 c (List.mem_of_mem_take hc))
          rw [← HJ.out] at hf
          have hkl : k < t.ln.length := by omega
          obtain ⟨b3, o3, b4, o4, c4, hA, hb3, cc1, hb4, cc2, l1, l2⟩ := aut_at ((HT.out.below HB3.out).2.2.1.1.1) hso (s := k) (c := yn) hkl (by omega)
          obtain ⟨lo, hi⟩ := dl_fit hso (s := (k : Int)) (c := (yn : Int)) ⟨by omega, by omega⟩ HY
          obtain ⟨k', hk'⟩ : ∃ k' : Nat, dl t.ln (k : Int) (yn : Int) = (k' : Int) := ⟨(dl t.ln (k : Int) (yn : Int)).toNat, by omega⟩
          have HJ' : Hid ((k' : Int) = runA t.ln 0 (l.take (f + (j + 1)))) := Lib.hid (by
            obtain ⟨g1, g2⟩ := List.getElem?_eq_some_iff.1 hy.out
            rw [show f + (j + 1) = f + j + 1 by omega, List.take_succ_eq_append_getElem g1, g2, runA_snoc, ← HJ.out, hk'])
          rw [hk'] at cc2
          obtain ⟨p0, p1, p2, p3, p4, p5, pl⟩ := tab6 HK3.out
          rw [hA, HNL.out] at p2
          rw [HNL.out] at hkl
          have gyn : yn < t.cls.length := by omega
          obtain ⟨nc, hnc⟩ : ∃ n, t.cls.length = n := ⟨_, rfl⟩
          rw [hnc] at cc1 gyn l1
          have hjn : f + j < n := by omega
          have cy' := cy
          rw [← Nat.add_assoc] at cy'
          have hq1 : b < w3.heap.size := by omega
          have hq2 : b3 < w3.heap.size := by omega
          have hq3 : b4 < w3.heap.size := by omega
          clear hso hf HY lo hi hk' hA hnc p0 p1 p3 p4 p5
          subst hw
          go_wp2
          go_roundw
          case rel => exact ⟨j + 1, k', by omega, by go_num, rfl, HJ', by trivial⟩
          case measure => simp [intOf] <;> omega
        · obtain rfl : j = d := by omega
          have HE : Hid (r1 = (k : Int)) := Lib.hid (by rw [HR.out, HJ.out, show f + j = m by omega])
          obtain rfl := HE.out
          subst hw
          go_wp2
          go_ret
          exact ⟨rfl, HB3.out⟩
end Go.Proofs.Ytkoojoogddndnaa
