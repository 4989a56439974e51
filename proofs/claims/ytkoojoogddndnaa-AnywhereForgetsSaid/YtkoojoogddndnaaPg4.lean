/-
  ref29.reverse (printed by pg4.py).
  Three rows of a call's own that grow side by side, of whatever cells.
-/
import Derived.Test.YtkoojoogddndnaaPg1
import Derived.Test.YtkoojoogddndnaaPd0
import Derived.Test.YtkoojoogddndnaaTrl
namespace Go.Proofs.Ytkoojoogddndnaa
open Go.RowKit Go.UtYtkoojoogddndnaa
def EE (E : Nat → Prop) (g : Nat) : Nat → Prop := fun b => E b ∨ b = g + 1 ∨ b = g + 2
def rvL (k : Int) (s : List Pat) : List Pat := if k = 2 then s.reverse else s
theorem rvL_nodes (k : Int) (s : List Pat) : nodesL (rvL k s) = nodesL s := by
  unfold rvL
  split
  · induction s with
    | nil => rfl
    | cons a s ih => rw [List.reverse_cons, nodesL_append, ih, nodesL, nodesL, nodesL]; omega
  · rfl
theorem rvL_len (k : Int) (s : List Pat) : (rvL k s).length = s.length := by
  unfold rvL
  split <;> simp
theorem own_ltP {w : World} {B c n sz : Nat} {t : TypeId} {A : Option Addr} {xs : List Value} (h : w.ownsRow B t sz (.slice A n c) n xs) : ∀ b, OwnE A b → b < w.heap.size ∧ B ≤ b := fun b hb => by
  rcases h.2 with ⟨h2, _⟩ | ⟨g, cap, cur, h2, h3, h4, _⟩
  · injection h2 with h2
    subst h2
    simp [OwnE, Value.ownBlock] at hb
  · injection h2 with h2
    subst h2
    have : g = b := by simpa [OwnE, Value.ownBlock] using hb
    subst this
    exact ⟨(Array.getElem?_eq_some_iff.1 h4).1, h3⟩
def RevOk (p : Pat) : Prop := ∀ (E : Nat → Prop) (A1 : Option Addr) (c1 : Nat) (A2 : Option Addr) (c2 : Nat) (w : World), (∀ b, E b → b < w.heap.size) → PvAt (era w E) w.heap.size p A1 c1 A2 c2 → nodes p ≤ 1000 →
  Calls Try.prog 52 #[.agg #[.int .i64 p.kind, .slice A1 p.cls.length c1, .slice A2 p.subs.length c2]] w fun e w' => ∃ (q : Pat) (A3 : Option Addr) (c3 : Nat), e = .returned (.agg #[.int .i64 q.kind, .slice A1 q.cls.length c1, .slice A3 q.subs.length c3]) ∧ PvAt (era w' E) w'.heap.size q A1 c1 A3 c3 ∧ nodes q = nodes p ∧ Below w.heap.size w w'
set_option maxRecDepth 100000 in
set_option maxHeartbeats 8000000 in
theorem reverse29_any (p : Pat) : RevOk p := by
  induction p using Pat.ind with
  | h kd cl s ih =>
    intro E A1 c1 A2 c2 w hE hP hbd
    obtain ⟨i0, hi0, hz0, hz1, hz2⟩ := info_parts pat_info
    have hnd : nodes (.mk kd cl s) = 1 + nodesL s := by rw [nodes]
    rw [hnd] at hbd
    change Calls Try.prog 52 #[.agg #[.int .i64 kd, .slice A1 cl.length c1, .slice A2 s.length c2]] w _
    obtain ⟨hp1, hp2, hp3⟩ := hP
    change cl.length ≤ c1 ∧ c1 ≤ maxLen at hp1
    change Row (era w E) w.heap.size A1 (ints cl) at hp2
    change PsAt (era w E) w.heap.size A2 c2 s at hp3
    have HP1 := Lib.hid hp1
    have HP2 := Lib.hid hp2
    have HP3 := Lib.hid hp3
    have HE := Lib.hid hE
    have HIH := Lib.hid ih
    have hsl := nodesL_len s
    have hs2 := hp3.1
    obtain ⟨nc, hnc⟩ : ∃ z, cl.length = z := ⟨_, rfl⟩
    obtain ⟨ns, hns⟩ : ∃ z, s.length = z := ⟨_, rfl⟩
    rw [hns] at hsl hs2 ⊢
    rw [hnc]
    have HNC := Lib.hid hnc
    have HNS := Lib.hid hns
    have HND := Lib.hid hnd
    have hs21 := hs2.1
    have hs22 := hs2.2
    unfold maxLen at hs22
    clear hp1 hp2 hp3 hE ih hs2 hnc hns hnd
    obtain ⟨u1, hu1, HU1, HKu1⟩ := boxV w 77 #[.int .i64 kd, .slice A1 nc c1, .slice A2 ns c2]
    have hu1s : u1.heap.size = w.heap.size + 1 := by rw [hu1]; simp
    obtain ⟨u2, hu2, HU2, HKu2⟩ := boxV u1 77 #[.int .i64 0, .slice none 0 0, .slice none 0 0]
    have hu2s : u2.heap.size = w.heap.size + 2 := by rw [hu2]; simp [hu1s]
    obtain ⟨w1, hw1, HB1, HK1⟩ := boxV u2 77 #[.int .i64 kd, .slice A1 nc c1, .slice none 0 0]
    have hw1s : w1.heap.size = w.heap.size + 3 := by rw [hw1]; simp [hu2s]
    rw [hu2s] at HK1
    have HBw1 : Hid (Below w.heap.size w w1) := Lib.hid ((HU1.out.trans (HU2.out.mono (by omega))).trans (HB1.out.mono (by omega)))
    have HKP1 : Hid (Blk w1 w.heap.size 77 #[.int .i64 kd, .slice A1 nc c1, .slice A2 ns c2]) := Lib.hid ((HKu1.out.after HU2.out).after HB1.out)
    have HKR1 : Hid (Blk w1 (w.heap.size + 1) 77 #[.int .i64 0, .slice none 0 0, .slice none 0 0]) := Lib.hid (by
      have := HKu2.out.after HB1.out
      rw [hu1s] at this
      exact this)
    go_enter Try.func52, Try.ntmps52
    go_upto_region 1 with fail
    rw [← hu1, ← hu2]
    have HKP2 := Lib.hid (HKu1.out.after HU2.out)
    have p0 := HKP2.out.cell 0
    have p1 := HKP2.out.cell 1
    have p2 := HKP2.out.cell 2
    have pl := HKP2.out.lt
    go_wp2
    rw [← hu1, ← hu2, ← hw1]
    clear hu1 hu2 hw1 p0 p1 p2 pl HKu1 HKu2 HKP2
    go_loopw [4] (fun iv wr => ∃ (i c : Nat) (A : Option Addr) (rs : List Pat) (us : List Value), i ≤ ns ∧ iv = .int .i64 (i : Int) ∧ Hid (rs.length = i) ∧ Hid (nodesL rs = nodesL ((rvL kd s).take i)) ∧ Hid (wr.ownsRow (w.heap.size + 3) 77 3 (.slice A i c) i us) ∧ Hid (PatsAt (era wr (OwnX (EE E w.heap.size) A)) wr.heap.size rs us) ∧ Hid (Blk wr (w.heap.size + 2) 77 #[.int .i64 kd, .slice A1 nc c1, .slice A i c]) ∧ Hid (Below (w.heap.size + 2) w1 wr)) (fun i _ => ns - (intOf i).toNat)
    case atStart => exact ⟨0, 0, none, [], [], by omega, rfl, rfl, Lib.hid (by simp), own_nil _, Lib.hid (by rw [PatsAt]), HK1, Below.refl _ _⟩
    case round =>
      obtain ⟨i, c, A, rs, us, hi, rfl, HRL, HNR, HO, HUS, HKO, HB⟩ := hrel
      have hbr : w.heap.size + 3 ≤ wr.heap.size := by have := HB.out.size; omega
      have HKP : Hid (Blk wr w.heap.size 77 #[.int .i64 kd, .slice A1 nc c1, .slice A2 ns c2]) := Lib.hid (HKP1.out.below HB.out (by omega))
      have HKR : Hid (Blk wr (w.heap.size + 1) 77 #[.int .i64 0, .slice none 0 0, .slice none 0 0]) := Lib.hid (HKR1.out.below HB.out (by omega))
      have HBw : Hid (Below w.heap.size w wr) := Lib.hid (HBw1.out.trans (HB.out.mono (by omega)))
      have p0 := HKP.out.cell 0
      have p2 := HKP.out.cell 2
      have pl := HKP.out.lt
      have HPr : Hid (PsAt (era wr (OwnX (EE E w.heap.size) A)) w.heap.size A2 c2 s) := Lib.hid (HP3.out.era_keep (fun b' hb' _ => HBw.out.block b' hb') (fun b' hb' h => by
        rcases h with (h | h | h) | h
        · exact h
        · omega
        · omega
        · have := (own_ltP HO.out b' h).2
          omega))
      by_cases hin : i < ns
      · by_cases h2 : kd = 2
        · subst h2
          obtain ⟨d, hd⟩ : ∃ d : Nat, (ns : Int) - 1 - (i : Int) = (d : Int) := ⟨ns - 1 - i, by omega⟩
          have hdn : d < ns := by omega
          have HRD0 : Hid (∀ q, s[d]? = some q → (rvL 2 s)[i]? = some q) := Lib.hid (fun q hq => by
            unfold rvL
            rw [if_pos rfl, List.getElem?_reverse (by rw [HNS.out]; exact hin), HNS.out, show ns - 1 - i = d by omega]
            exact hq)
          obtain ⟨b, o, q, B1, e1, B2, e2, hA2, hb, hq, q0', q1', q2', g1, g2, g3⟩ := HPr.out.at_ (k := d) (by rw [HNS.out]; exact hdn)
          subst hA2
          have hnb : Hid (¬ OwnX (EE E w.heap.size) A b) := Lib.hid (era_some q0').2
          have q0 := (era_some q0').1
          have q1 := (era_some q1').1
          have q2 := (era_some q2').1
          have HQV : Hid (PvAt (era wr (OwnX (EE E w.heap.size) A)) wr.heap.size q B1 e1 B2 e2) := Lib.hid ⟨g1, g2.more (by omega), g3.more (by omega)⟩
          have HRD := Lib.hid (HRD0.out q hq.out)
          have hqm := List.mem_of_getElem? hq.out
          have HIQ := Lib.hid (HIH.out q hqm)
          have hnq := nodes_mem hqm
          obtain ⟨qk, hqk⟩ : ∃ z, q.kind = z := ⟨_, rfl⟩
          obtain ⟨qn, hqn⟩ : ∃ z, q.cls.length = z := ⟨_, rfl⟩
          obtain ⟨qs, hqs⟩ : ∃ z, q.subs.length = z := ⟨_, rfl⟩
          rw [hqk] at q0
          rw [hqn] at q1
          rw [hqs] at q2
          have HQK := Lib.hid hqk
          have HQN := Lib.hid hqn
          have HQS := Lib.hid hqs
          have hbl : b < wr.heap.size := by omega
          have o0 := HKO.out.cell 0
          have o1 := HKO.out.cell 1
          have o2 := HKO.out.cell 2
          have ol := HKO.out.lt
          clear q0' q1' q2' g1 g2 g3 hqk hqn hqs hqm
          go_wp2
          refine wp_region_treeL 11 (fun w' => Blk w' (w.heap.size + 2) 77 #[.int .i64 2, .slice A1 nc c1, .slice A i c] ∧ Blk w' w.heap.size 77 #[.int .i64 2, .slice A1 nc c1, .slice (some ⟨b, o, none⟩) ns c2] ∧ w'.cell? ⟨b, o + d * 3, none⟩ = some (.int .i64 qk) ∧ w'.cell? ⟨b, o + d * 3 + 1, none⟩ = some (.slice B1 qn e1) ∧ w'.cell? ⟨b, o + d * 3 + 2, none⟩ = some (.slice B2 qs e2)) (.float 0 (.float 1 (.float 2 (.float 3 (.float 4 (.float 5 (.float 6 (.one 7 (.one 8 (.one 9 (.float 10 (.one 11 .done)))))))))))) (by kernel_rfl) (by kernel_rfl) (fun _ _ d _ _ h => by cases d <;> exact h) ⟨HKO.out.drew, HKP.out.drew, q0, q1, q2⟩ ?_
          repeat (first
            | (refine wpTrL_fskip (by simp only [List.getElem?_toArray, List.getElem?_cons_zero, List.getElem?_cons_succ]; rfl) (by rfl) ?_
               simp only [Act.put, List.setIfInBounds_toArray, List.set_cons_zero, List.set_cons_succ])
            | (refine wpTrL_float (v := ?_) (by simp only [List.getElem?_toArray, List.getElem?_cons_zero, List.getElem?_cons_succ]; rfl) (by rfl) (fun w' hS => ?_) ?_
               rotate_left
               ((obtain ⟨hSK, hSP, e3', e4', e5'⟩ := hS; have s2' := hSK.cell 2; have sl' := hSK.lt; have z2' := hSP.cell 2; have zl' := hSP.lt); go_simp; first | done | rfl)
               simp only [Act.put, List.setIfInBounds_toArray, List.set_cons_zero, List.set_cons_succ]))
          refine wpTrL_one ?_
          refine stepTrL_K (by simp only [List.getElem?_toArray, List.getElem?_cons_zero, List.getElem?_cons_succ]; rfl) (by rfl) (fun K hK => ?_)
          go_simp
          have hXlt : ∀ b', OwnX (EE E w.heap.size) A b' → b' < wr.heap.size := fun b' hb' => by
            rcases hb' with hb' | hb'
            · rcases hb' with hb' | hb' | hb'
              · have := HE.out b' hb'
                omega
              · omega
              · omega
            · exact (own_ltP HO.out b' hb').1
          have CQ := HIQ.out (OwnX (EE E w.heap.size) A) B1 e1 B2 e2 wr.drew hXlt ⟨HQV.out.1, HQV.out.2.1.era_keep (fun _ _ _ => rfl) (fun _ _ h => h), HQV.out.2.2.era_keep (fun _ _ _ => rfl) (fun _ _ h => h)⟩ (by omega)
          rw [HQK.out, HQN.out, HQS.out] at CQ
          replace CQ := Lib.hid CQ
          refine CQ.out.mono ?_
          rintro e w3 ⟨q', A3, c3, rfl, hPV3, hN3, hb3⟩
          have HBL3 : Hid (Below wr.heap.size wr w3) := Lib.hid ((Below.refl _ _).drew.trans hb3)
          have HPV3 := Lib.hid hPV3
          have HN3 := Lib.hid hN3
          obtain ⟨zk, hzk⟩ : ∃ z, q'.kind = z := ⟨_, rfl⟩
          obtain ⟨zn, hzn⟩ : ∃ z, q'.cls.length = z := ⟨_, rfl⟩
          obtain ⟨zs, hzs⟩ : ∃ z, q'.subs.length = z := ⟨_, rfl⟩
          have HPA3 := Lib.hid (PvAt.pats hPV3)
          rw [hzk, hzn, hzs] at HPA3
          rw [hzk, hzn, hzs]
          clear hPV3 hb3 hzk hzn hzs hN3
          have HKO3 := Lib.hid (HKO.out.after HBL3.out)
          have HKP3 := Lib.hid (HKP.out.after HBL3.out)
          have q03 := (HBL3.out.cell (p := ⟨b, o + d * 3, none⟩) hbl).trans q0
          have q13 := (HBL3.out.cell (p := ⟨b, o + d * 3 + 1, none⟩) hbl).trans q1
          have q23 := (HBL3.out.cell (p := ⟨b, o + d * 3 + 2, none⟩) hbl).trans q2
          refine hK.out _ _ ⟨HKO3.out, HKP3.out, q03, q13, q23⟩ ?_
          clear hK K
          try simp only [Act.put, List.setIfInBounds_toArray, List.set_cons_zero, List.set_cons_succ]
          refine wpTrL_one ?_
          refine stepTrL_K (by simp only [List.getElem?_toArray, List.getElem?_cons_zero, List.getElem?_cons_succ]; rfl) (by rfl) (fun K hK => ?_)
          go_simp
          obtain ⟨w4, hw4, HB4, HK4⟩ := boxV w3 77 #[.int .i64 zk, .slice B1 zn e1, .slice A3 zs c3]
          have HL4 : Hid (Row w4 (w3.heap.size + 1) (some ⟨w3.heap.size, 0, none⟩) [.int .i64 zk, .slice B1 zn e1, .slice A3 zs c3]) := Lib.hid (by
            rw [hw4]
            exact row_lit w3 _ _)
          rw [← hw4]
          have hbl3 : b < w3.heap.size := Nat.lt_of_lt_of_le hbl HBL3.out.size
          have HBL4 : Hid (Below wr.heap.size wr w4) := Lib.hid (HBL3.out.trans (HB4.out.mono HBL3.out.size))
          have HKO4 := Lib.hid (HKO.out.after HBL4.out)
          have HKP4 := Lib.hid (HKP.out.after HBL4.out)
          have q04 := (HBL4.out.cell (p := ⟨b, o + d * 3, none⟩) hbl).trans q0
          have q14 := (HBL4.out.cell (p := ⟨b, o + d * 3 + 1, none⟩) hbl).trans q1
          have q24 := (HBL4.out.cell (p := ⟨b, o + d * 3 + 2, none⟩) hbl).trans q2
          have HO4 := Lib.hid (ow_below HO.out HBL4.out)
          have hB4 : w.heap.size + 3 ≤ w4.heap.size := Nat.le_trans hbr HBL4.out.size
          refine hK.out _ _ ⟨HKO4.out, HKP4.out, q04, q14, q24⟩ ?_
          clear hK K hw4
          try simp only [Act.put, List.setIfInBounds_toArray, List.set_cons_zero, List.set_cons_succ]
          refine wpTrL_one ?_
          refine stepTrL_K (by simp only [List.getElem?_toArray, List.getElem?_cons_zero, List.getElem?_cons_succ]; rfl) (by rfl) (fun K hK => ?_)
          refine wp_append_row w4 (.tmp 29) (.tmp 36) _ rfl (w.heap.size + 3) 77 i0 _ 3 56 Try.underlying75 hi0 hz0 hz1 hz2 rfl (by omega) (.slice A i c) i us rfl HO4.out _ _ 1 1 [.int .i64 zk, .slice B1 zn e1, .slice A3 zs c3] rfl rfl HL4.out (by intro u hu; simp at hu; rcases hu with rfl | rfl | rfl <;> rfl) (by simp only [maxLen]; omega) (by omega) hB4 ?_
          intro q5 w5 o5 g5 t5
          obtain ⟨A5, c5, rfl⟩ := ow_slice (m := i + 1) o5 rfl
          have HO5 := Lib.hid o5
          obtain ⟨hk5, hg5⟩ := kept_set (E := EE E w.heap.size) hB4 g5 (fun b' hb' => (own_ltP HO4.out b' hb').2) t5
          have HK5 := Lib.hid hk5
          have HG5 := Lib.hid hg5
          clear o5 g5 t5 hk5 hg5
          have HX4 : Hid (Kept (w.heap.size + 3) (OwnX (EE E w.heap.size) A) wr w4) := Lib.hid (Kept.below hbr HBL4.out)
          have HX5 : Hid (Kept (w.heap.size + 3) (OwnX (EE E w.heap.size) A) wr w5) := Lib.hid (HX4.out.trans (Grew.refl _ _) HK5.out)
          have HGX5 : Hid (Grew wr (OwnX (EE E w.heap.size) A) (OwnX (EE E w.heap.size) A5)) := Lib.hid (Grew.trans HBL4.out.size (Grew.refl _ _) HG5.out)
          have HUS5 : Hid (PatsAt (era w5 (OwnX (EE E w.heap.size) A5)) w5.heap.size (rs ++ [q']) (us ++ [.int .i64 zk, .slice B1 zn e1, .slice A3 zs c3])) := Lib.hid (PatsAt.append (PatsAt.keep (fun _ _ h => h.kept HX5.out HGX5.out) _ _ HUS.out) (PatsAt.keep (fun _ _ h => ((h.era_keep (w' := w4) (fun b' hb' _ => HB4.out.block b' hb') (fun _ _ h => h)).more HB4.out.size).kept HK5.out HG5.out) _ _ HPA3.out))
          have HB5 : Hid (Below (w.heap.size + 2) w1 w5) := Lib.hid (HB.out.trans (HX5.out.1.mono (by omega)))
          have hnO : ∀ g, g < w.heap.size + 3 → ¬ OwnE A g := fun g hg h => by have := (own_ltP HO.out g h).2; omega
          have HKO5 : Hid (Blk w5 (w.heap.size + 2) 77 #[.int .i64 2, .slice A1 nc c1, .slice A i c]) := Lib.hid (HKO.out.below HX5.out.1 (by omega))
          have HKP5 : Hid (Blk w5 w.heap.size 77 #[.int .i64 2, .slice A1 nc c1, .slice (some ⟨b, o, none⟩) ns c2]) := Lib.hid (HKP.out.below HX5.out.1 (by omega))
          have q05 := (World.cell?_of_block (a := ⟨b, o + d * 3, none⟩) (HX5.out.2 b hbl hnb.out)).trans q0
          have q15 := (World.cell?_of_block (a := ⟨b, o + d * 3 + 1, none⟩) (HX5.out.2 b hbl hnb.out)).trans q1
          have q25 := (World.cell?_of_block (a := ⟨b, o + d * 3 + 2, none⟩) (HX5.out.2 b hbl hnb.out)).trans q2
          refine hK.out _ _ ⟨HKO5.out, HKP5.out, q05, q15, q25⟩ ?_
          clear hK K
          try simp only [Act.put, List.setIfInBounds_toArray, List.set_cons_zero, List.set_cons_succ]
          repeat (first
            | (refine wpTrL_fskip (by simp only [List.getElem?_toArray, List.getElem?_cons_zero, List.getElem?_cons_succ]; rfl) (by rfl) ?_
               simp only [Act.put, List.setIfInBounds_toArray, List.set_cons_zero, List.set_cons_succ])
            | (refine wpTrL_float (v := ?_) (by simp only [List.getElem?_toArray, List.getElem?_cons_zero, List.getElem?_cons_succ]; rfl) (by rfl) (fun w' hS => ?_) ?_
               rotate_left
               ((skip); go_simp; first | done | rfl)
               simp only [Act.put, List.setIfInBounds_toArray, List.set_cons_zero, List.set_cons_succ]))
          refine wpTrL_one ?_
          refine stepTrL_last (by simp only [List.getElem?_toArray, List.getElem?_cons_zero, List.getElem?_cons_succ]; rfl) (by rfl) (fun K hK => ?_)
          have kk0 := HKO5.out.cell 0
          have kk1 := HKO5.out.cell 1
          have kk2 := HKO5.out.cell 2
          have kkl := HKO5.out.lt
          have kf2 := HKO5.out.free 2
          obtain ⟨w6, hw6, HO6, HUS6, HKO6, HB6⟩ : ∃ z, z = w5.setCell ⟨w.heap.size + 2, 2, none⟩ (.slice A5 (i + 1) c5) ∧ Hid (z.ownsRow (w.heap.size + 3) 77 3 (.slice A5 (i + 1) c5) (i + 1) (us ++ [.int .i64 zk, .slice B1 zn e1, .slice A3 zs c3])) ∧ Hid (PatsAt (era z (OwnX (EE E w.heap.size) A5)) z.heap.size (rs ++ [q']) (us ++ [.int .i64 zk, .slice B1 zn e1, .slice A3 zs c3])) ∧ Hid (Blk z (w.heap.size + 2) 77 #[.int .i64 2, .slice A1 nc c1, .slice A5 (i + 1) c5]) ∧ Hid (Below (w.heap.size + 2) w1 z) := by
            refine ⟨_, rfl, Lib.hid (ow_set HO5.out (by show w.heap.size + 2 < _; omega)), Lib.hid (PatsAt.keep (fun _ _ h => (h.era_keep (fun b' hb' hn => Below.heap_setCell _ _ _ b' (fun e => hn (.inl (.inr (.inr e))))) (fun _ _ h => h)).more (by simp [World.setCell])) _ _ HUS5.out), Lib.hid (HKO5.out.set_ 2 _), Lib.hid (HB5.out.setCell (p := ⟨w.heap.size + 2, 2, none⟩) (Nat.le_refl _) _)⟩
          go_simp
          rw [← hw6]
          refine hK.out _ _ ?_
          clear hK K hw6 kk0 kk1 kk2 kkl kf2 hXlt hnO
          try simp only [Act.put, List.setIfInBounds_toArray, List.set_cons_zero, List.set_cons_succ]
          refine wpTrL_done ?_
          have HNL : Hid (nodesL (rs ++ [q']) = nodesL ((rvL 2 s).take (i + 1))) := Lib.hid (by
            rw [nodesL_append, nodesL_take HRD.out, HNR.out, nodesL, nodesL, HN3.out]
            omega)
          have HLR : Hid ((rs ++ [q']).length = i + 1) := Lib.hid (by rw [List.length_append, HRL.out]; rfl)
          go_wp2
          go_roundw
          case rel => exact ⟨i + 1, c5, A5, rs ++ [q'], us ++ [.int .i64 zk, .slice B1 zn e1, .slice A3 zs c3], by omega, by go_num, HLR, HNL, HO6, HUS6, HKO6, HB6⟩
          case measure => simp [intOf] <;> omega
        · have d2 : decide (kd = 2) = false := decide_eq_false h2
          have HRD0 : Hid (∀ q, s[i]? = some q → (rvL kd s)[i]? = some q) := Lib.hid (fun q hq => by
            unfold rvL
            rw [if_neg h2]
            exact hq)
          obtain ⟨b, o, q, B1, e1, B2, e2, hA2, hb, hq, q0', q1', q2', g1, g2, g3⟩ := HPr.out.at_ (k := i) (by rw [HNS.out]; exact hin)
          subst hA2
          have hnb : Hid (¬ OwnX (EE E w.heap.size) A b) := Lib.hid (era_some q0').2
          have q0 := (era_some q0').1
          have q1 := (era_some q1').1
          have q2 := (era_some q2').1
          have HQV : Hid (PvAt (era wr (OwnX (EE E w.heap.size) A)) wr.heap.size q B1 e1 B2 e2) := Lib.hid ⟨g1, g2.more (by omega), g3.more (by omega)⟩
          have HRD := Lib.hid (HRD0.out q hq.out)
          have hqm := List.mem_of_getElem? hq.out
          have HIQ := Lib.hid (HIH.out q hqm)
          have hnq := nodes_mem hqm
          obtain ⟨qk, hqk⟩ : ∃ z, q.kind = z := ⟨_, rfl⟩
          obtain ⟨qn, hqn⟩ : ∃ z, q.cls.length = z := ⟨_, rfl⟩
          obtain ⟨qs, hqs⟩ : ∃ z, q.subs.length = z := ⟨_, rfl⟩
          rw [hqk] at q0
          rw [hqn] at q1
          rw [hqs] at q2
          have HQK := Lib.hid hqk
          have HQN := Lib.hid hqn
          have HQS := Lib.hid hqs
          have hbl : b < wr.heap.size := by omega
          have o0 := HKO.out.cell 0
          have o1 := HKO.out.cell 1
          have o2 := HKO.out.cell 2
          have ol := HKO.out.lt
          clear q0' q1' q2' g1 g2 g3 hqk hqn hqs hqm
          go_wp2
          refine wp_region_treeL 11 (fun w' => Blk w' (w.heap.size + 2) 77 #[.int .i64 kd, .slice A1 nc c1, .slice A i c] ∧ Blk w' w.heap.size 77 #[.int .i64 kd, .slice A1 nc c1, .slice (some ⟨b, o, none⟩) ns c2] ∧ w'.cell? ⟨b, o + i * 3, none⟩ = some (.int .i64 qk) ∧ w'.cell? ⟨b, o + i * 3 + 1, none⟩ = some (.slice B1 qn e1) ∧ w'.cell? ⟨b, o + i * 3 + 2, none⟩ = some (.slice B2 qs e2)) (.float 0 (.float 1 (.float 2 (.float 3 (.float 4 (.float 5 (.float 6 (.one 7 (.one 8 (.one 9 (.float 10 (.one 11 .done)))))))))))) (by kernel_rfl) (by kernel_rfl) (fun _ _ d _ _ h => by cases d <;> exact h) ⟨HKO.out.drew, HKP.out.drew, q0, q1, q2⟩ ?_
          repeat (first
            | (refine wpTrL_fskip (by simp only [List.getElem?_toArray, List.getElem?_cons_zero, List.getElem?_cons_succ]; rfl) (by rfl) ?_
               simp only [Act.put, List.setIfInBounds_toArray, List.set_cons_zero, List.set_cons_succ])
            | (refine wpTrL_float (v := ?_) (by simp only [List.getElem?_toArray, List.getElem?_cons_zero, List.getElem?_cons_succ]; rfl) (by rfl) (fun w' hS => ?_) ?_
               rotate_left
               ((obtain ⟨hSK, hSP, e3', e4', e5'⟩ := hS; have s2' := hSK.cell 2; have sl' := hSK.lt; have z2' := hSP.cell 2; have zl' := hSP.lt); go_simp; first | done | rfl)
               simp only [Act.put, List.setIfInBounds_toArray, List.set_cons_zero, List.set_cons_succ]))
          refine wpTrL_one ?_
          refine stepTrL_K (by simp only [List.getElem?_toArray, List.getElem?_cons_zero, List.getElem?_cons_succ]; rfl) (by rfl) (fun K hK => ?_)
          go_simp
          have hXlt : ∀ b', OwnX (EE E w.heap.size) A b' → b' < wr.heap.size := fun b' hb' => by
            rcases hb' with hb' | hb'
            · rcases hb' with hb' | hb' | hb'
              · have := HE.out b' hb'
                omega
              · omega
              · omega
            · exact (own_ltP HO.out b' hb').1
          have CQ := HIQ.out (OwnX (EE E w.heap.size) A) B1 e1 B2 e2 wr.drew hXlt ⟨HQV.out.1, HQV.out.2.1.era_keep (fun _ _ _ => rfl) (fun _ _ h => h), HQV.out.2.2.era_keep (fun _ _ _ => rfl) (fun _ _ h => h)⟩ (by omega)
          rw [HQK.out, HQN.out, HQS.out] at CQ
          replace CQ := Lib.hid CQ
          refine CQ.out.mono ?_
          rintro e w3 ⟨q', A3, c3, rfl, hPV3, hN3, hb3⟩
          have HBL3 : Hid (Below wr.heap.size wr w3) := Lib.hid ((Below.refl _ _).drew.trans hb3)
          have HPV3 := Lib.hid hPV3
          have HN3 := Lib.hid hN3
          obtain ⟨zk, hzk⟩ : ∃ z, q'.kind = z := ⟨_, rfl⟩
          obtain ⟨zn, hzn⟩ : ∃ z, q'.cls.length = z := ⟨_, rfl⟩
          obtain ⟨zs, hzs⟩ : ∃ z, q'.subs.length = z := ⟨_, rfl⟩
          have HPA3 := Lib.hid (PvAt.pats hPV3)
          rw [hzk, hzn, hzs] at HPA3
          rw [hzk, hzn, hzs]
          clear hPV3 hb3 hzk hzn hzs hN3
          have HKO3 := Lib.hid (HKO.out.after HBL3.out)
          have HKP3 := Lib.hid (HKP.out.after HBL3.out)
          have q03 := (HBL3.out.cell (p := ⟨b, o + i * 3, none⟩) hbl).trans q0
          have q13 := (HBL3.out.cell (p := ⟨b, o + i * 3 + 1, none⟩) hbl).trans q1
          have q23 := (HBL3.out.cell (p := ⟨b, o + i * 3 + 2, none⟩) hbl).trans q2
          refine hK.out _ _ ⟨HKO3.out, HKP3.out, q03, q13, q23⟩ ?_
          clear hK K
          try simp only [Act.put, List.setIfInBounds_toArray, List.set_cons_zero, List.set_cons_succ]
          refine wpTrL_one ?_
          refine stepTrL_K (by simp only [List.getElem?_toArray, List.getElem?_cons_zero, List.getElem?_cons_succ]; rfl) (by rfl) (fun K hK => ?_)
          go_simp
          obtain ⟨w4, hw4, HB4, HK4⟩ := boxV w3 77 #[.int .i64 zk, .slice B1 zn e1, .slice A3 zs c3]
          have HL4 : Hid (Row w4 (w3.heap.size + 1) (some ⟨w3.heap.size, 0, none⟩) [.int .i64 zk, .slice B1 zn e1, .slice A3 zs c3]) := Lib.hid (by
            rw [hw4]
            exact row_lit w3 _ _)
          rw [← hw4]
          have hbl3 : b < w3.heap.size := Nat.lt_of_lt_of_le hbl HBL3.out.size
          have HBL4 : Hid (Below wr.heap.size wr w4) := Lib.hid (HBL3.out.trans (HB4.out.mono HBL3.out.size))
          have HKO4 := Lib.hid (HKO.out.after HBL4.out)
          have HKP4 := Lib.hid (HKP.out.after HBL4.out)
          have q04 := (HBL4.out.cell (p := ⟨b, o + i * 3, none⟩) hbl).trans q0
          have q14 := (HBL4.out.cell (p := ⟨b, o + i * 3 + 1, none⟩) hbl).trans q1
          have q24 := (HBL4.out.cell (p := ⟨b, o + i * 3 + 2, none⟩) hbl).trans q2
          have HO4 := Lib.hid (ow_below HO.out HBL4.out)
          have hB4 : w.heap.size + 3 ≤ w4.heap.size := Nat.le_trans hbr HBL4.out.size
          refine hK.out _ _ ⟨HKO4.out, HKP4.out, q04, q14, q24⟩ ?_
          clear hK K hw4
          try simp only [Act.put, List.setIfInBounds_toArray, List.set_cons_zero, List.set_cons_succ]
          refine wpTrL_one ?_
          refine stepTrL_K (by simp only [List.getElem?_toArray, List.getElem?_cons_zero, List.getElem?_cons_succ]; rfl) (by rfl) (fun K hK => ?_)
          refine wp_append_row w4 (.tmp 29) (.tmp 36) _ rfl (w.heap.size + 3) 77 i0 _ 3 56 Try.underlying75 hi0 hz0 hz1 hz2 rfl (by omega) (.slice A i c) i us rfl HO4.out _ _ 1 1 [.int .i64 zk, .slice B1 zn e1, .slice A3 zs c3] rfl rfl HL4.out (by intro u hu; simp at hu; rcases hu with rfl | rfl | rfl <;> rfl) (by simp only [maxLen]; omega) (by omega) hB4 ?_
          intro q5 w5 o5 g5 t5
          obtain ⟨A5, c5, rfl⟩ := ow_slice (m := i + 1) o5 rfl
          have HO5 := Lib.hid o5
          obtain ⟨hk5, hg5⟩ := kept_set (E := EE E w.heap.size) hB4 g5 (fun b' hb' => (own_ltP HO4.out b' hb').2) t5
          have HK5 := Lib.hid hk5
          have HG5 := Lib.hid hg5
          clear o5 g5 t5 hk5 hg5
          have HX4 : Hid (Kept (w.heap.size + 3) (OwnX (EE E w.heap.size) A) wr w4) := Lib.hid (Kept.below hbr HBL4.out)
          have HX5 : Hid (Kept (w.heap.size + 3) (OwnX (EE E w.heap.size) A) wr w5) := Lib.hid (HX4.out.trans (Grew.refl _ _) HK5.out)
          have HGX5 : Hid (Grew wr (OwnX (EE E w.heap.size) A) (OwnX (EE E w.heap.size) A5)) := Lib.hid (Grew.trans HBL4.out.size (Grew.refl _ _) HG5.out)
          have HUS5 : Hid (PatsAt (era w5 (OwnX (EE E w.heap.size) A5)) w5.heap.size (rs ++ [q']) (us ++ [.int .i64 zk, .slice B1 zn e1, .slice A3 zs c3])) := Lib.hid (PatsAt.append (PatsAt.keep (fun _ _ h => h.kept HX5.out HGX5.out) _ _ HUS.out) (PatsAt.keep (fun _ _ h => ((h.era_keep (w' := w4) (fun b' hb' _ => HB4.out.block b' hb') (fun _ _ h => h)).more HB4.out.size).kept HK5.out HG5.out) _ _ HPA3.out))
          have HB5 : Hid (Below (w.heap.size + 2) w1 w5) := Lib.hid (HB.out.trans (HX5.out.1.mono (by omega)))
          have hnO : ∀ g, g < w.heap.size + 3 → ¬ OwnE A g := fun g hg h => by have := (own_ltP HO.out g h).2; omega
          have HKO5 : Hid (Blk w5 (w.heap.size + 2) 77 #[.int .i64 kd, .slice A1 nc c1, .slice A i c]) := Lib.hid (HKO.out.below HX5.out.1 (by omega))
          have HKP5 : Hid (Blk w5 w.heap.size 77 #[.int .i64 kd, .slice A1 nc c1, .slice (some ⟨b, o, none⟩) ns c2]) := Lib.hid (HKP.out.below HX5.out.1 (by omega))
          have q05 := (World.cell?_of_block (a := ⟨b, o + i * 3, none⟩) (HX5.out.2 b hbl hnb.out)).trans q0
          have q15 := (World.cell?_of_block (a := ⟨b, o + i * 3 + 1, none⟩) (HX5.out.2 b hbl hnb.out)).trans q1
          have q25 := (World.cell?_of_block (a := ⟨b, o + i * 3 + 2, none⟩) (HX5.out.2 b hbl hnb.out)).trans q2
          refine hK.out _ _ ⟨HKO5.out, HKP5.out, q05, q15, q25⟩ ?_
          clear hK K
          try simp only [Act.put, List.setIfInBounds_toArray, List.set_cons_zero, List.set_cons_succ]
          repeat (first
            | (refine wpTrL_fskip (by simp only [List.getElem?_toArray, List.getElem?_cons_zero, List.getElem?_cons_succ]; rfl) (by rfl) ?_
               simp only [Act.put, List.setIfInBounds_toArray, List.set_cons_zero, List.set_cons_succ])
            | (refine wpTrL_float (v := ?_) (by simp only [List.getElem?_toArray, List.getElem?_cons_zero, List.getElem?_cons_succ]; rfl) (by rfl) (fun w' hS => ?_) ?_
               rotate_left
               ((skip); go_simp; first | done | rfl)
               simp only [Act.put, List.setIfInBounds_toArray, List.set_cons_zero, List.set_cons_succ]))
          refine wpTrL_one ?_
          refine stepTrL_last (by simp only [List.getElem?_toArray, List.getElem?_cons_zero, List.getElem?_cons_succ]; rfl) (by rfl) (fun K hK => ?_)
          have kk0 := HKO5.out.cell 0
          have kk1 := HKO5.out.cell 1
          have kk2 := HKO5.out.cell 2
          have kkl := HKO5.out.lt
          have kf2 := HKO5.out.free 2
          obtain ⟨w6, hw6, HO6, HUS6, HKO6, HB6⟩ : ∃ z, z = w5.setCell ⟨w.heap.size + 2, 2, none⟩ (.slice A5 (i + 1) c5) ∧ Hid (z.ownsRow (w.heap.size + 3) 77 3 (.slice A5 (i + 1) c5) (i + 1) (us ++ [.int .i64 zk, .slice B1 zn e1, .slice A3 zs c3])) ∧ Hid (PatsAt (era z (OwnX (EE E w.heap.size) A5)) z.heap.size (rs ++ [q']) (us ++ [.int .i64 zk, .slice B1 zn e1, .slice A3 zs c3])) ∧ Hid (Blk z (w.heap.size + 2) 77 #[.int .i64 kd, .slice A1 nc c1, .slice A5 (i + 1) c5]) ∧ Hid (Below (w.heap.size + 2) w1 z) := by
            refine ⟨_, rfl, Lib.hid (ow_set HO5.out (by show w.heap.size + 2 < _; omega)), Lib.hid (PatsAt.keep (fun _ _ h => (h.era_keep (fun b' hb' hn => Below.heap_setCell _ _ _ b' (fun e => hn (.inl (.inr (.inr e))))) (fun _ _ h => h)).more (by simp [World.setCell])) _ _ HUS5.out), Lib.hid (HKO5.out.set_ 2 _), Lib.hid (HB5.out.setCell (p := ⟨w.heap.size + 2, 2, none⟩) (Nat.le_refl _) _)⟩
          go_simp
          rw [← hw6]
          refine hK.out _ _ ?_
          clear hK K hw6 kk0 kk1 kk2 kkl kf2 hXlt hnO
          try simp only [Act.put, List.setIfInBounds_toArray, List.set_cons_zero, List.set_cons_succ]
          refine wpTrL_done ?_
          have HNL : Hid (nodesL (rs ++ [q']) = nodesL ((rvL kd s).take (i + 1))) := Lib.hid (by
            rw [nodesL_append, nodesL_take HRD.out, HNR.out, nodesL, nodesL, HN3.out]
            omega)
          have HLR : Hid ((rs ++ [q']).length = i + 1) := Lib.hid (by rw [List.length_append, HRL.out]; rfl)
          go_wp2
          go_roundw
          case rel => exact ⟨i + 1, c5, A5, rs ++ [q'], us ++ [.int .i64 zk, .slice B1 zn e1, .slice A3 zs c3], by omega, by go_num, HLR, HNL, HO6, HUS6, HKO6, HB6⟩
          case measure => simp [intOf] <;> omega
      · obtain rfl : i = ns := by omega
        have o0 := HKO.out.cell 0
        have o1 := HKO.out.cell 1
        have o2 := HKO.out.cell 2
        have ol := HKO.out.lt
        have rr0 := HKR.out.cell 0
        have rr1 := HKR.out.cell 1
        have rr2 := HKR.out.cell 2
        have rl := HKR.out.lt
        obtain ⟨rf0, rf1, rf2⟩ := HKR.out.free3
        have HNF : Hid (nodesL rs = nodesL s) := Lib.hid (by
          rw [HNR.out, List.take_of_length_le (by rw [rvL_len, HNS.out]; exact Nat.le_refl _), rvL_nodes])
        obtain ⟨wf, hwf, HOf, HUSf, HKf, HBf⟩ : ∃ z, z = ((wr.setCell ⟨w.heap.size + 1, 0, none⟩ (.int .i64 kd)).setCell ⟨w.heap.size + 1, 1, none⟩ (.slice A1 nc c1)).setCell ⟨w.heap.size + 1, 2, none⟩ (.slice A i c) ∧ Hid (z.ownsRow (w.heap.size + 3) 77 3 (.slice A i c) i us) ∧ Hid (PatsAt (era z E) z.heap.size rs us) ∧ Hid (Blk z (w.heap.size + 1) 77 #[.int .i64 kd, .slice A1 nc c1, .slice A i c]) ∧ Hid (Below w.heap.size w z) := by
          refine ⟨_, rfl, Lib.hid (ow_set (ow_set (ow_set HO.out (by show w.heap.size + 1 < _; omega)) (by show w.heap.size + 1 < _; omega)) (by show w.heap.size + 1 < _; omega)), Lib.hid (PatsAt.keep (fun _ _ h => (h.era_keep (fun b' hb' hn => ?_) (fun _ _ h => .inl (.inl h))).more (by simp [World.setCell])) _ _ HUS.out), Lib.hid (((HKR.out.set_ 0 _).set_ 1 _).set_ 2 _), Lib.hid (((HBw.out.setCell (p := ⟨w.heap.size + 1, 0, none⟩) (Nat.le_succ _) _).setCell (p := ⟨w.heap.size + 1, 1, none⟩) (Nat.le_succ _) _).setCell (p := ⟨w.heap.size + 1, 2, none⟩) (Nat.le_succ _) _)⟩
          have hne : b' ≠ w.heap.size + 1 := fun e => hn (.inl (.inr (.inl e)))
          exact ((Below.heap_setCell _ _ _ b' hne).trans (Below.heap_setCell _ _ _ b' hne)).trans (Below.heap_setCell _ _ _ b' hne)
        have HPV : Hid (PvAt (era wf E) wf.heap.size (.mk kd cl rs) A1 c1 A c) := Lib.hid (by
          obtain ⟨r1, r2, r3⟩ := ow_row HOf.out
          refine ⟨HP1.out, (HP2.out.era_keep (fun b' hb' _ => HBf.out.block b' hb') (fun _ _ h => h)).more HBf.out.size, ⟨by show rs.length ≤ _; rw [HRL.out]; exact r2, r3⟩, us, ow_era HOf.out (fun g hg hE => ?_), HUSf.out⟩
          have h1 := own_base HOf.out g hg
          have h2 := HE.out g hE
          omega)
        clear HUS HO
        go_wp2
        rw [← hwf]
        obtain ⟨y0, y1, y2⟩ := HKf.out.cells3
        refine bodyPost_ret (v := .agg #[.int .i64 kd, .slice A1 nc c1, .slice A i c]) ?_ rfl ⟨.mk kd cl rs, A, c, by simp only [Pat.kind, Pat.cls, Pat.subs]; rw [HNC.out, HRL.out], HPV.out, by rw [HND.out, nodes, HNF.out], HBf.out⟩
        simp [results, Try.results52, go_sem, y0, y1, y2]
end Go.Proofs.Ytkoojoogddndnaa
namespace Go.UtYtkoojoogddndnaa
open Go.RowKit
/-- a row: where, and what holds of it in a world, what it holds lying apart from the row and from the blocks of U -/
structure Ro where
  A : Option Addr
  own : (Nat → Prop) → World → Prop
structure Ro.good (r : Ro) : Prop where
  lt : ∀ (U : Nat → Prop) (w : World), r.own U w → ∀ b, OwnE r.A b → b < w.heap.size
  move : ∀ (U U' : Nat → Prop) (w w' : World), r.own U w → (∀ b, OwnE r.A b → w'.heap[b]? = w.heap[b]?) → (∀ b, b < w.heap.size → ¬ OwnX U r.A b → w'.heap[b]? = w.heap[b]?) → w.heap.size ≤ w'.heap.size → (∀ b, U' b → OwnX U r.A b ∨ w.heap.size ≤ b) → r.own U' w'
def U3 (E0 : Nat → Prop) (A B C : Option Addr) : Nat → Prop := fun b => E0 b ∨ OwnE A b ∨ OwnE B b ∨ OwnE C b
structure Thr (E0 : Nat → Prop) (w : World) (r1 r2 r3 : Ro) : Prop where
  g1 : r1.good
  g2 : r2.good
  g3 : r3.good
  o1 : r1.own (U3 E0 r1.A r2.A r3.A) w
  o2 : r2.own (U3 E0 r1.A r2.A r3.A) w
  o3 : r3.own (U3 E0 r1.A r2.A r3.A) w
  n1 : ∀ b, E0 b → ¬ OwnE r1.A b
  n2 : ∀ b, E0 b → ¬ OwnE r2.A b
  n3 : ∀ b, E0 b → ¬ OwnE r3.A b
  a12 : Apart r1.A r2.A
  a13 : Apart r1.A r3.A
  a23 : Apart r2.A r3.A
  e0 : ∀ b, E0 b → b < w.heap.size
section
variable {E0 : Nat → Prop} {w w' : World} {r1 r2 r3 : Ro}
theorem Ro.good.re {r : Ro} (g : r.good) {U U' : Nat → Prop} (h : r.own U w) (hU : ∀ b, U' b → OwnX U r.A b) : r.own U' w :=
  g.move U U' w w h (fun _ _ => rfl) (fun _ _ _ => rfl) (Nat.le_refl _) (fun b hb => .inl (hU b hb))
theorem Thr.rot (F : Thr E0 w r1 r2 r3) : Thr E0 w r2 r3 r1 := by
  have hU : ∀ b, U3 E0 r2.A r3.A r1.A b → U3 E0 r1.A r2.A r3.A b := fun b h => by
    unfold U3 at h ⊢
    rcases h with h | h | h | h <;> simp [h]
  exact ⟨F.g2, F.g3, F.g1, F.g2.re F.o2 (fun b h => .inl (hU b h)), F.g3.re F.o3 (fun b h => .inl (hU b h)), F.g1.re F.o1 (fun b h => .inl (hU b h)), F.n2, F.n3, F.n1, F.a23, F.a12.symm, F.a13.symm, F.e0⟩
theorem Thr.lt (F : Thr E0 w r1 r2 r3) : ∀ b, U3 E0 r1.A r2.A r3.A b → b < w.heap.size := fun b h => by
  rcases h with h | h | h | h
  · exact F.e0 b h
  · exact F.g1.lt _ _ F.o1 b h
  · exact F.g2.lt _ _ F.o2 b h
  · exact F.g3.lt _ _ F.o3 b h
theorem Thr.push1 {r1' : Ro} (F : Thr E0 w r1 r2 r3) (g : r1'.good) (hO : r1'.own (U3 E0 r1.A r2.A r3.A) w') (hk : ∀ b, b < w.heap.size → ¬ OwnE r1.A b → w'.heap[b]? = w.heap[b]?) (hs : w.heap.size ≤ w'.heap.size) (hg : Grew w (OwnE r1.A) (OwnE r1'.A)) : Thr E0 w' r1' r2 r3 := by
  have hU : ∀ b, U3 E0 r1'.A r2.A r3.A b → U3 E0 r1.A r2.A r3.A b ∨ w.heap.size ≤ b := fun b h => by
    unfold U3 at h ⊢
    rcases h with h | h | h
    · simp [h]
    · rcases hg b h with h | h <;> simp [h]
    · rcases h with h | h <;> simp [h]
  have hUA : ∀ b, OwnE r1.A b → U3 E0 r1.A r2.A r3.A b := fun b h => by
    unfold U3
    simp [h]
  have aside : ∀ r : Ro, r.good → r.own (U3 E0 r1.A r2.A r3.A) w → Apart r1.A r.A → r.own (U3 E0 r1'.A r2.A r3.A) w' ∧ Apart r1'.A r.A := fun r gr ho ha =>
    ⟨gr.move _ _ _ _ ho (fun b hb => hk b (gr.lt _ _ ho b hb) (fun h => ha b h hb)) (fun b hb hn => hk b hb (fun h => hn (.inl (hUA b h)))) hs (fun b hb => (hU b hb).imp .inl id), fun b hb hb' => by
      rcases hg b hb with h1 | h1
      · exact ha b h1 hb'
      · have := gr.lt _ _ ho b hb'
        omega⟩
  obtain ⟨p2, q2⟩ := aside r2 F.g2 F.o2 F.a12
  obtain ⟨p3, q3⟩ := aside r3 F.g3 F.o3 F.a13
  refine ⟨g, F.g2, F.g3, g.re hO (fun b h => ?_), p2, p3, fun b hb hb' => ?_, F.n2, F.n3, q2, q3, F.a23, fun b hb => Nat.lt_of_lt_of_le (F.e0 b hb) hs⟩
  · unfold OwnX U3
    unfold U3 at h
    rcases h with h | h | h
    · simp [h]
    · simp [h]
    · rcases h with h | h <;> simp [h]
  · rcases hg b hb' with h1 | h1
    · exact F.n1 b hb h1
    · have := F.e0 b hb
      omega
theorem Thr.keep (F : Thr E0 w r1 r2 r3) (hk : ∀ b, b < w.heap.size → ¬ E0 b → w'.heap[b]? = w.heap[b]?) (hs : w.heap.size ≤ w'.heap.size) : Thr E0 w' r1 r2 r3 := by
  have mv : ∀ r : Ro, r.good → r.own (U3 E0 r1.A r2.A r3.A) w → (∀ b, E0 b → ¬ OwnE r.A b) → r.own (U3 E0 r1.A r2.A r3.A) w' := fun r g ho hn =>
    g.move _ _ _ _ ho (fun b hb => hk b (g.lt _ _ ho b hb) (fun h => hn b h hb)) (fun b hb h => hk b hb (fun h0 => h (.inl (.inl h0)))) hs (fun b hb => .inl (.inl hb))
  exact ⟨F.g1, F.g2, F.g3, mv r1 F.g1 F.o1 F.n1, mv r2 F.g2 F.o2 F.n2, mv r3 F.g3 F.o3 F.n3, F.n1, F.n2, F.n3, F.a12, F.a13, F.a23, fun b hb => Nat.lt_of_lt_of_le (F.e0 b hb) hs⟩
theorem Thr.after (F : Thr E0 w r1 r2 r3) (hb : Below w.heap.size w w') : Thr E0 w' r1 r2 r3 := F.keep (fun b hb' _ => hb.block b hb') hb.size
end
theorem ow_move {w w' : World} {B n c sz : Nat} {t : TypeId} {A : Option Addr} {xs : List Value} (h : w.ownsRow B t sz (.slice A n c) n xs) (hk : ∀ b, OwnE A b → w'.heap[b]? = w.heap[b]?) : w'.ownsRow B t sz (.slice A n c) n xs := by
  refine ⟨h.1, ?_⟩
  rcases h.2 with h' | ⟨g, cap, cur, hv, hb, hh, h'⟩
  · exact .inl h'
  · refine .inr ⟨g, cap, cur, hv, hb, (hk g ?_).trans hh, h'⟩
    injection hv with hv
    subst hv
    simp [OwnE, Value.ownBlock]
/-- a row of ints -/
def rowI (t : TypeId) (B : Nat) (A : Option Addr) (c n : Nat) (xs : List Int) : Ro := ⟨A, fun _ w => w.ownsRow B t 1 (.slice A n c) n (ints xs)⟩
/-- a row of patterns -/
def rowP (t : TypeId) (B : Nat) (A : Option Addr) (c n : Nat) (ps : List Pat) (us : List Value) : Ro := ⟨A, fun U w => w.ownsRow B t 3 (.slice A n c) n us ∧ PatsAt (era w (OwnX U A)) w.heap.size ps us⟩
theorem rowI.good {t : TypeId} {B c n : Nat} {A : Option Addr} {xs : List Int} : (rowI t B A c n xs).good :=
  ⟨fun _ _ h b hb => (Go.Proofs.Ytkoojoogddndnaa.own_ltP h b hb).1, fun _ _ _ _ h hA _ _ _ => ow_move h hA⟩
theorem rowP.good {t : TypeId} {B c n : Nat} {A : Option Addr} {ps : List Pat} {us : List Value} : (rowP t B A c n ps us).good :=
  ⟨fun _ _ h b hb => (Go.Proofs.Ytkoojoogddndnaa.own_ltP h.1 b hb).1, fun U U' w w' h hA hk hs hU => ⟨ow_move h.1 hA, PatsAt.keep (fun _ _ h => (h.era_keep hk (fun b hb hb' => by
    rcases hb' with hb' | hb'
    · rcases hU b hb' with h3 | h3
      · exact h3
      · omega
    · exact .inr hb')).more hs) _ _ h.2⟩⟩
/-- how a row of patterns has grown by one -/
theorem rowP.grow {U : Nat → Prop} {t : TypeId} {w w' : World} {B c n c' : Nat} {A A' : Option Addr} {ps : List Pat} {us vs : List Value} {q : Pat} (h : (rowP t B A c n ps us).own U w) (hB : B ≤ w.heap.size) (hq : PatsAt (era w (OwnX U A)) w.heap.size [q] vs)
    (ho : w'.ownsRow B t 3 (.slice A' (n + 1) c') (n + 1) (us ++ vs)) (g : w.grownBy w' (Value.slice A n c).ownBlock) (hn : (Value.slice A' (n + 1) c').ownBlock = (Value.slice A n c).ownBlock ∨ (Value.slice A' (n + 1) c').ownBlock = some w.heap.size) :
    (rowP t B A' c' (n + 1) (ps ++ [q]) (us ++ vs)).own U w' ∧ Kept B (OwnE A) w w' ∧ Grew w (OwnE A) (OwnE A') := by
  obtain ⟨h1, h2⟩ := h
  have hA := Go.Proofs.Ytkoojoogddndnaa.own_ltP h1
  obtain ⟨hk, hg⟩ := Go.Proofs.Ytkoojoogddndnaa.kept_set (E := U) hB g (fun b hb => (hA b hb).2) hn
  obtain ⟨hk', hg'⟩ := Go.Proofs.Ytkoojoogddndnaa.kept_set (E := fun _ => False) hB g (fun b hb => (hA b hb).2) hn
  refine ⟨⟨ho, PatsAt.append (PatsAt.keep (fun _ _ h => h.kept hk hg) _ _ h2) (PatsAt.keep (fun _ _ h => h.kept hk hg) _ _ hq)⟩, ⟨hk'.1, fun b hb hE => hk'.2 b hb (fun h => h.elim False.elim hE)⟩, fun b hb => ?_⟩
  rcases hg' b (.inr hb) with h | h
  · exact .inl (h.elim False.elim id)
  · exact .inr h
theorem rowI.grow {w w' : World} {B c n c' : Nat} {A A' : Option Addr} {xs : List Value} {t : TypeId} (h : w.ownsRow B t 1 (.slice A n c) n xs) (hB : B ≤ w.heap.size)
    (g : w.grownBy w' (Value.slice A n c).ownBlock) (hn : (Value.slice A' (n + 1) c').ownBlock = (Value.slice A n c).ownBlock ∨ (Value.slice A' (n + 1) c').ownBlock = some w.heap.size) : Kept B (OwnE A) w w' ∧ Grew w (OwnE A) (OwnE A') := by
  have hA := Go.Proofs.Ytkoojoogddndnaa.own_ltP h
  obtain ⟨hk', hg'⟩ := Go.Proofs.Ytkoojoogddndnaa.kept_set (E := fun _ => False) hB g (fun b hb => (hA b hb).2) hn
  refine ⟨⟨hk'.1, fun b hb hE => hk'.2 b hb (fun h => h.elim False.elim hE)⟩, fun b hb => ?_⟩
  rcases hg' b (.inr hb) with h | h
  · exact .inl (h.elim False.elim id)
  · exact .inr h
end Go.UtYtkoojoogddndnaa
