/-
  seqpool.Find, ref14.Same: walks.
-/
import Derived.Test.YteobffcnfigilaaProg
import Derived.Test.YteobffcnfigilaaBase
import Derived.Test.YteobffcnfigilaaSp4
import Derived.WalkKit
import Derived.KernelRfl
import Derived.Outline
namespace Go.Proofs.Yteobffcnfigilaa
open Go.RowKit Go.UtYteobffcnfigilaa
attribute [local go_sem high] cut_l cut_lh cut_lhm cutA_zero
attribute [local go_sem 500] cut_any
theorem findGo_eq (p : Pl) (seq : List Int) (f k : Nat) (h : f + k = p.S.length) (hk : ∀ j, j < k → seqAt p j ≠ seq) : (∃ i, k ≤ i ∧ i < p.S.length ∧ seqAt p i = seq ∧ (∀ j, j < i → seqAt p j ≠ seq) ∧ findGo p seq f k = ((i : Int), true)) ∨ ((∀ j, j < p.S.length → seqAt p j ≠ seq) ∧ findGo p seq f k = (0, false)) := by
  induction f generalizing k with
  | zero => exact .inr ⟨fun j hj => hk j (by omega), rfl⟩
  | succ f ih =>
    rw [findGo]
    by_cases h1 : seqAt p k = seq
    · rw [if_pos h1]
      exact .inl ⟨k, Nat.le_refl _, by omega, h1, hk, rfl⟩
    · rw [if_neg h1]
      rcases ih (k + 1) (by omega) (fun j hj => by
        rcases Nat.lt_succ_iff_lt_or_eq.1 hj with h2 | rfl
        · exact hk j h2
        · exact h1) with ⟨i, a, b⟩ | b
      · exact .inl ⟨i, by omega, b⟩
      · exact .inr b
theorem find_yes {p : Pl} {seq : List Int} {i : Nat} (hv : vld14 p = true) (hi : i < p.S.length) (h : seqAt p i = seq) (hj : ∀ j, j < i → seqAt p j ≠ seq) : find14 p seq = ((i : Int), true) := by
  unfold find14
  rw [if_pos hv]
  rcases findGo_eq p seq p.S.length 0 (by omega) (fun j hj => by omega) with ⟨k, _, h2, h3, h4, h5⟩ | ⟨h2, _⟩
  · rcases Nat.lt_trichotomy i k with h6 | rfl | h6
    · exact absurd h (h4 i h6)
    · exact h5
    · exact absurd h3 (hj k h6)
  · exact absurd h (h2 i hi)
theorem find_no {p : Pl} {seq : List Int} (hv : vld14 p = true) (h : ∀ j, j < p.S.length → seqAt p j ≠ seq) : find14 p seq = (0, false) := by
  unfold find14
  rw [if_pos hv]
  rcases findGo_eq p seq p.S.length 0 (by omega) (fun j hj => by omega) with ⟨k, _, h2, h3, _⟩ | ⟨_, h5⟩
  · exact absurd h3 (h k h2)
  · exact h5
def RetNB (w : World) (n : Int) (b : Bool) (e : Ending) (w' : World) : Prop := e = .returned (.tuple #[.int .i64 n, .bool b]) ∧ Below w.heap.size w w'
theorem cequal_b (A A' : Option Addr) (c c' B : Nat) (xs ys : List Int) (w : World) (hx : Row w B A (ints xs)) (hy : Row w B A' (ints ys)) (lx : xs.length ≤ maxLen) (ly : ys.length ≤ maxLen) (v : Bool) (hv : decide (xs = ys) = v) :
    Calls Try.prog 28 #[.slice A xs.length c, .slice A' ys.length c'] w fun e w' => e = .returned (.bool v) ∧ Below w.heap.size w w' :=
  (cequal_v A A' _ _ c c' B xs ys w hx hy rfl rfl lx ly v hv).mono fun _ _ ⟨he, n, hw⟩ => ⟨he, hw ▸ below_drewN (Below.refl _ _) n⟩
theorem requal_b (A A' : Option Addr) (c c' B : Nat) (xs ys : List Int) (w : World) (hx : Row w B A (ints xs)) (hy : Row w B A' (ints ys)) (lx : xs.length ≤ maxLen) (ly : ys.length ≤ maxLen) (v : Bool) (hv : decide (xs = ys) = v) :
    Calls Try.prog 21 #[.slice A xs.length c, .slice A' ys.length c'] w fun e w' => e = .returned (.bool v) ∧ Below w.heap.size w w' := by
  have := equal_below A A' c c' B xs ys w hx hy lx ly
  rw [cmpL_beq, hv] at this
  exact this
set_option maxHeartbeats 2000000 in
theorem find_any (C S L A : Option Addr) (cC cS cL c : Nat) (p : Pl) (seq : List Int) (w : World) (hp : PlAt w w.heap.size C cC S cS L cL p) (hf : Fine p) (hA : Row w w.heap.size A (ints seq)) (ls : seq.length ≤ maxLen) (n : Int) (b : Bool) (hg : find14 p seq = (n, b)) :
    Calls Try.prog 19 #[.agg #[.slice C p.C.length cC, .slice S p.S.length cS, .slice L p.L.length cL], .slice A seq.length c] w (RetNB w n b) := by
  have HG := Lib.hid hg
  have HF := Lib.hid hf
  have HLS := Lib.hid ls
  have HB0 : Hid (Below w.heap.size w (w.alloc (.cells #[.slice C p.C.length cC, .slice S p.S.length cS, .slice L p.L.length cL] 27))) := (Below.refl _ _).alloc (Nat.le_refl _) _
  have HX0 : Hid (Blk (w.alloc (.cells #[.slice C p.C.length cC, .slice S p.S.length cS, .slice L p.L.length cL] 27)) w.heap.size 27 #[.slice C p.C.length cC, .slice S p.S.length cS, .slice L p.L.length cL]) := Blk.new _ _ _
  have HP0 := Lib.hid (hp.below HB0.out).lt
  have HA0 := Lib.hid (hA.below HB0.out).lt
  obtain ⟨f1, f2, f3⟩ := hf
  clear hg hp hA ls
  cases hv : vld14 p with
  | false =>
    have HV := Lib.hid hv
    have HE : Hid ((n, b) = (0, false)) := by
      show _ = _
      rw [← HG.out, find14, if_neg (by rw [hv]; simp)]
    clear hv
    go_enter Try.func19, Try.ntmps19
    go_wp2_with fail
    refine (vld_calls C S L cC cS cL p _ HP0.out HF.out _ HV.out).mono ?_
    rintro e w1 ⟨rfl, hb1⟩
    have HB1 := Lib.hid (below_then HB0.out hb1 (Nat.le_refl _))
    clear hb1 HB0 HX0 HP0
    go_wp2
    go_ret2
    obtain ⟨rfl, rfl⟩ := Prod.mk.inj HE.out
    exact ⟨rfl, HB1.out⟩
  | true =>
    have HV := Lib.hid hv
    clear hv
    go_enter Try.func19, Try.ntmps19
    go_wp2_with fail
    refine (vld_calls C S L cC cS cL p _ HP0.out HF.out _ HV.out).mono ?_
    rintro e w1 ⟨rfl, hb1⟩
    have HB1 := Lib.hid (below_then HB0.out hb1 (Nat.le_refl _))
    have HX1 := Lib.hid (HX0.out.after hb1)
    have HP1 := Lib.hid (HP0.out.below hb1).lt
    have HA1 := Lib.hid (HA0.out.below hb1).lt
    obtain ⟨e0, e1, e2⟩ := HX1.out.cells3
    have hlt := HX1.out.lt
    clear hb1 HB0 HX0 HP0 HA0
    go_wp2_with fail
    clear e0 e1 e2 hlt
    go_loopw [13] (fun i wr => ∃ k : Nat, k ≤ p.S.length ∧ i = .int .i64 k ∧ Hid (∀ j, j < k → seqAt p j ≠ seq) ∧ Hid (Below w.heap.size w wr) ∧ Hid (Blk wr w.heap.size 27 #[.slice C p.C.length cC, .slice S p.S.length cS, .slice L p.L.length cL]) ∧ Hid (PlAt wr wr.heap.size C cC S cS L cL p) ∧ Hid (Row wr wr.heap.size A (ints seq))) (fun i _ => p.S.length - (intOf i).toNat)
    case atStart => exact ⟨0, by omega, rfl, fun j hj => by omega, HB1, HX1, HP1, HA1⟩
    case round =>
      obtain ⟨k, hk, rfl, HK, HB, HX, HP, HA⟩ := hrel
      obtain ⟨e0, e1, e2⟩ := HX.out.cells3
      have hlt := HX.out.lt
      by_cases h1 : k < p.S.length
      · go_wp2_with fail
        refine (sequence_p C S L cC cS cL p _ HP.out HV.out k h1).mono ?_
        rintro e w2 ⟨A2, c2, rfl, g1, g2, g3, g4⟩
        have HB2 := Lib.hid (below_then HB.out g4 (Nat.le_refl _))
        have HX2 := Lib.hid (HX.out.after g4)
        have HP2 := Lib.hid (HP.out.below g4).lt
        have HA2 := Lib.hid (HA.out.below g4).lt
        have HR2 := Lib.hid g3
        have hsl := seqAt_len (p := p) (k := k)
        clear g3 g4 e0 e1 e2 hlt
        cases hd : decide (seqAt p k = seq) with
        | true =>
          have HD := Lib.hid hd
          have HE := Lib.hid (HG.out.symm.trans (find_yes HV.out h1 (of_decide_eq_true hd) HK.out))
          clear hd
          go_wp2_with fail
          refine (cequal_b A2 A c2 c _ (seqAt p k) seq _ HR2.out HA2.out (by simp only [maxLen]; omega) HLS.out true HD.out).mono ?_
          rintro e w3 ⟨rfl, hb3⟩
          have HB3 := Lib.hid (below_then HB2.out hb3 (Nat.le_refl _))
          clear hb3
          go_wp2
          go_ret2
          obtain ⟨rfl, rfl⟩ := Prod.mk.inj HE.out
          exact ⟨rfl, HB3.out⟩
        | false =>
          have HD := Lib.hid hd
          have HN : Hid (∀ j, j < k + 1 → seqAt p j ≠ seq) := fun j hj => by
            rcases Nat.lt_succ_iff_lt_or_eq.1 hj with h2 | rfl
            · exact HK.out j h2
            · exact of_decide_eq_false hd
          clear hd
          go_wp2_with fail
          refine (cequal_b A2 A c2 c _ (seqAt p k) seq _ HR2.out HA2.out (by simp only [maxLen]; omega) HLS.out false HD.out).mono ?_
          rintro e w3 ⟨rfl, hb3⟩
          have HB3 := Lib.hid (below_then HB2.out hb3 (Nat.le_refl _))
          have HX3 := Lib.hid (HX2.out.after hb3)
          have HP3 := Lib.hid (HP2.out.below hb3).lt
          have HA3 := Lib.hid (HA2.out.below hb3).lt
          clear hb3
          go_wp2
          go_roundw
          case rel => exact ⟨k + 1, by omega, by go_num, HN, HB3, HX3, HP3, HA3⟩
          case measure => simp [intOf]; omega
      · have HE := Lib.hid (HG.out.symm.trans (find_no HV.out (fun j hj => HK.out j (by omega))))
        go_wp2
        go_ret2
        obtain ⟨rfl, rfl⟩ := Prod.mk.inj HE.out
        exact ⟨rfl, HB.out⟩
end Go.Proofs.Yteobffcnfigilaa
