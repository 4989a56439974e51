/-
  ref50.one, ref50.Check: the first error of rules, of the specification.
-/
import Derived.Test.YtledbiabdiijhaaTs3
namespace Go.Proofs.Ytledbiabdiijhaa
open Go.RowKit Go.UtYtledbiabdiijhaa
set_option maxRecDepth 100000 in
set_option maxHeartbeats 6000000 in
theorem one_any (r : TR) (vs : List Value) (w : World) (hR : RuleAt w w.heap.size vs r) (hb : smS r.bef) (hm : smS r.mat) (ha : smS r.aft) :
    Calls Try.prog 41 #[.agg vs.toArray] w fun e w' => e = .returned (.int .i64 (chk1 r)) ∧ Below w.heap.size w w' := by
  obtain ⟨Ab, cb, Am, cm, Aa, ca, Ar, cr, rfl, ⟨rb, rm, ra, rr⟩, ⟨b1, b2⟩, ⟨m1, m2⟩, ⟨a1, a2⟩, ⟨r1, r2⟩⟩ := hR
  have RB := Lib.hid rb
  have RM := Lib.hid rm
  have RA := Lib.hid ra
  have RR := Lib.hid rr
  have SB := Lib.hid hb
  have SM := Lib.hid hm
  have SA := Lib.hid ha
  clear rb rm ra rr hb hm ha
  obtain ⟨w1, h1, HB1, HX1⟩ : ∃ w1, w1 = w.alloc (.cells #[.slice Ab r.bef.length cb, .slice Am r.mat.length cm, .slice Aa r.aft.length ca, .slice Ar r.res.length cr] 34) ∧ Hid (Below w.heap.size w w1) ∧ Hid (Blk w1 w.heap.size 34 #[.slice Ab r.bef.length cb, .slice Am r.mat.length cm, .slice Aa r.aft.length ca, .slice Ar r.res.length cr]) := ⟨_, rfl, (Below.refl _ _).alloc (Nat.le_refl _) _, Blk.new _ _ _⟩
  have CB := fun (w' : World) (hb : Below w.heap.size w w') (v : Bool) (hv : v = true ↔ ∀ s ∈ r.bef, okS s) => right_any Ab cb r.bef w' ((RB.out.below hb).more hb.size) b1 b2 SB.out v hv
  have CM := fun (w' : World) (hb : Below w.heap.size w w') (v : Bool) (hv : v = true ↔ ∀ s ∈ r.mat, okS s) => right_any Am cm r.mat w' ((RM.out.below hb).more hb.size) m1 m2 SM.out v hv
  have CA := fun (w' : World) (hb : Below w.heap.size w w') (v : Bool) (hv : v = true ↔ ∀ s ∈ r.aft, okS s) => right_any Aa ca r.aft w' ((RA.out.below hb).more hb.size) a1 a2 SA.out v hv
  unfold maxLen at b2 m2 a2 r2
  obtain ⟨nb, hnb⟩ : ∃ n, r.bef.length = n := ⟨_, rfl⟩
  obtain ⟨nm, hnm⟩ : ∃ n, r.mat.length = n := ⟨_, rfl⟩
  obtain ⟨na, hna⟩ : ∃ n, r.aft.length = n := ⟨_, rfl⟩
  obtain ⟨nr, hnr⟩ : ∃ n, r.res.length = n := ⟨_, rfl⟩
  rw [hnb] at b1
  rw [hnm] at m1
  rw [hna] at a1
  rw [hnr] at r1
  rw [hnb] at CB
  rw [hnm] at CM
  rw [hna] at CA
  have CB := Lib.hid CB
  have CM := Lib.hid CM
  have CA := Lib.hid CA
  rw [hnb, hnm, hna, hnr] at h1 HX1 ⊢
  by_cases hsz : sizeOk r
  case neg =>
    have HF : Hid (chk1 r = 2) := chk1_size hsz
    have hsz' : ¬ (1 ≤ nm ∧ nm ≤ 8 ∧ nb ≤ 8 ∧ na ≤ 8 ∧ nr ≤ 16) := fun h => hsz ⟨by omega, by omega, by omega, by omega, by omega⟩
    by_cases t1 : nm < 1
    · go_enter Try.func41, Try.ntmps41
      go_wp2
      go_ret
      exact ⟨by rw [HF.out]; rfl, by rw [← h1]; exact HB1.out⟩
    by_cases t2 : 8 < nm
    · go_enter Try.func41, Try.ntmps41
      go_wp2
      go_ret
      exact ⟨by rw [HF.out]; rfl, by rw [← h1]; exact HB1.out⟩
    by_cases t3 : 8 < nb
    · go_enter Try.func41, Try.ntmps41
      go_wp2
      go_ret
      exact ⟨by rw [HF.out]; rfl, by rw [← h1]; exact HB1.out⟩
    by_cases t4 : 8 < na
    · go_enter Try.func41, Try.ntmps41
      go_wp2
      go_ret
      exact ⟨by rw [HF.out]; rfl, by rw [← h1]; exact HB1.out⟩
    have t5 : 16 < nr := by omega
    go_enter Try.func41, Try.ntmps41
    go_wp2
    go_ret
    exact ⟨by rw [HF.out]; rfl, by rw [← h1]; exact HB1.out⟩
  case pos =>
    have hsz0 := Lib.hid hsz
    obtain ⟨t1, t2, t3, t4, t5⟩ : 1 ≤ nm ∧ nm ≤ 8 ∧ nb ≤ 8 ∧ na ≤ 8 ∧ nr ≤ 16 := by
      obtain ⟨q1, q2, q3, q4, q5⟩ := hsz
      exact ⟨by omega, by omega, by omega, by omega, by omega⟩
    clear hsz
    have NOT : Hid (¬ setsOk r → chk1 r = 11) := chk1_sets hsz0.out
    have e0 := HX1.out.cell 0
    simp at e0
    by_cases ob : ∀ s ∈ r.bef, okS s
    case neg =>
      have HF : Hid (chk1 r = 11) := NOT.out (fun h => ob h.1)
      have C1 := Lib.hid (CB.out w1 HB1.out false ⟨fun h => (by cases h), fun h => absurd h ob⟩)
      go_enter Try.func41, Try.ntmps41
      go_wp2_with (first | (go_at_call 45; rw [← h1]; refine C1.out.mono ?_; rintro e w2 ⟨rfl, hb2⟩; have HB2 := Lib.hid (HB1.out.trans (hb2.mono HB1.out.size))))
      go_ret
      exact ⟨by rw [HF.out]; rfl, HB2.out⟩
    case pos =>
      have C1 := Lib.hid (CB.out w1 HB1.out true ⟨fun _ => ob, fun _ => rfl⟩)
      have OB := Lib.hid ob
      clear ob
      by_cases om : ∀ s ∈ r.mat, okS s
      case neg =>
        have HF : Hid (chk1 r = 11) := NOT.out (fun h => om h.2.1)
        go_enter Try.func41, Try.ntmps41
        go_wp2_with (first | (go_at_call 45; rw [← h1]; refine C1.out.mono ?_; rintro e w2 ⟨rfl, hb2⟩; have HB2 := Lib.hid (HB1.out.trans (hb2.mono HB1.out.size)); have HX2 := Lib.hid (HX1.out.after hb2); have p1 := HX2.out.cell 1; have p2 := HX2.out.lt; simp at p1; clear hb2 h1) | (go_at_call 45; refine (CM.out w2 HB2.out false ⟨fun h => (by cases h), fun h => absurd h om⟩).mono ?_; rintro e w3 ⟨rfl, hb3⟩; have HB3 := Lib.hid (HB2.out.trans (hb3.mono HB2.out.size)); have HX3 := Lib.hid (HX2.out.after hb3); have p3 := HX3.out.cell 2; have p4 := HX3.out.lt; simp at p3; clear hb3))
        go_ret
        exact ⟨by rw [HF.out]; rfl, HB3.out⟩
      case pos =>
        have OM := Lib.hid om
        clear om
        by_cases oa : ∀ s ∈ r.aft, okS s
        case neg =>
          have HF : Hid (chk1 r = 11) := NOT.out (fun h => oa h.2.2)
          go_enter Try.func41, Try.ntmps41
          go_wp2_with (first | (go_at_call 45; rw [← h1]; refine C1.out.mono ?_; rintro e w2 ⟨rfl, hb2⟩; have HB2 := Lib.hid (HB1.out.trans (hb2.mono HB1.out.size)); have HX2 := Lib.hid (HX1.out.after hb2); have p1 := HX2.out.cell 1; have p2 := HX2.out.lt; simp at p1; clear hb2 h1) | (go_at_call 45; refine (CA.out w3 HB3.out false ⟨fun h => (by cases h), fun h => absurd h oa⟩).mono ?_; rintro e w4 ⟨rfl, hb4⟩; have HB4 := Lib.hid (HB3.out.trans (hb4.mono HB3.out.size)); have HX4 := Lib.hid (HX3.out.after hb4); have p5 := HX4.out.cell 3; have p6 := HX4.out.lt; have p7 := HX4.out.cell 1; simp at p5 p7; clear hb4) | (go_at_call 45; refine (CM.out w2 HB2.out true ⟨fun _ => OM.out, fun _ => rfl⟩).mono ?_; rintro e w3 ⟨rfl, hb3⟩; have HB3 := Lib.hid (HB2.out.trans (hb3.mono HB2.out.size)); have HX3 := Lib.hid (HX2.out.after hb3); have p3 := HX3.out.cell 2; have p4 := HX3.out.lt; simp at p3; clear hb3))
          go_ret
          exact ⟨by rw [HF.out]; rfl, HB4.out⟩
        case pos =>
          have hset : Hid (setsOk r) := ⟨OB.out, OM.out, oa⟩
          have OA := Lib.hid oa
          clear oa
          go_enter Try.func41, Try.ntmps41
          go_wp2_with (first | (go_at_call 45; rw [← h1]; refine C1.out.mono ?_; rintro e w2 ⟨rfl, hb2⟩; have HB2 := Lib.hid (HB1.out.trans (hb2.mono HB1.out.size)); have HX2 := Lib.hid (HX1.out.after hb2); have p1 := HX2.out.cell 1; have p2 := HX2.out.lt; simp at p1; clear hb2 h1) | (go_at_call 45; refine (CA.out w3 HB3.out true ⟨fun _ => OA.out, fun _ => rfl⟩).mono ?_; rintro e w4 ⟨rfl, hb4⟩; have HB4 := Lib.hid (HB3.out.trans (hb4.mono HB3.out.size)); have HX4 := Lib.hid (HX3.out.after hb4); have p5 := HX4.out.cell 3; have p6 := HX4.out.lt; have p7 := HX4.out.cell 1; simp at p5 p7; clear hb4) | (go_at_call 45; refine (CM.out w2 HB2.out true ⟨fun _ => OM.out, fun _ => rfl⟩).mono ?_; rintro e w3 ⟨rfl, hb3⟩; have HB3 := Lib.hid (HB2.out.trans (hb3.mono HB2.out.size)); have HX3 := Lib.hid (HX2.out.after hb3); have p3 := HX3.out.cell 2; have p4 := HX3.out.lt; simp at p3; clear hb3))
          have RR6 := Lib.hid ((RR.out.below HB4.out).more HB4.out.size)
          go_loopw [3] (fun i wr => ∃ k : Nat, k ≤ nr ∧ i = .int .i64 (k : Int) ∧ Hid (∀ p ∈ r.res.take k, pieceOk r.mat.length p) ∧ Hid (Below w4.heap.size w4 wr)) (fun i _ => nr - (intOf i).toNat)
          case atStart => exact ⟨0, by omega, rfl, fun s hs => by simp at hs, Below.refl _ _⟩
          case round =>
            obtain ⟨j, hj, rfl, HJ, HB7⟩ := hrel
            have hb7 := HB7.out.size
            have HB8 := Lib.hid (HB4.out.trans (HB7.out.mono HB4.out.size))
            have t1' := (HX4.out.after HB7.out).cell 1
            have t2' := (HX4.out.after HB7.out).lt
            have t3' := (HX4.out.after HB7.out).cell 3
            simp at t1' t3'
            by_cases h2 : j < nr
            · obtain ⟨b, o, x, y, rfl, hb, hx, c1, c2⟩ := at_pr (RR6.out.below HB7.out) (k := j) (by omega)
              have hmem := List.mem_of_getElem? hx.out
              have q3 : Hid (Below w.heap.size w (wr.alloc (Obj.cells #[.int .i64 x, .int .i64 y] 51))) := HB8.out.alloc HB8.out.size _
              have q4 : Hid (Below w4.heap.size w4 (wr.alloc (Obj.cells #[.int .i64 x, .int .i64 y] 51))) := HB7.out.alloc HB7.out.size _
              have NEXT : Hid (pieceOk r.mat.length (x, y) → ∀ p ∈ r.res.take (j + 1), pieceOk r.mat.length p) := by
                intro hp t ht
                obtain ⟨hk', e⟩ := List.getElem?_eq_some_iff.1 hx.out
                rw [List.take_succ_eq_append_getElem hk', e] at ht
                rcases List.mem_append.1 ht with ht | ht
                · exact HJ.out t ht
                · rw [List.mem_singleton.1 ht]
                  exact hp
              have BAD : Hid (¬ pieceOk r.mat.length (x, y) → chk1 r = 1) := fun hp => chk1_res hsz0.out hset.out (fun h => hp (h _ hmem))
              have HNM := Lib.hid hnm
              by_cases hy : y = 0
              · subst hy
                cases hv : vldB x with
                | true =>
                  have HV := Lib.hid hv
                  have HN : Hid (∀ p ∈ r.res.take (j + 1), pieceOk r.mat.length p) := NEXT.out (.inl ⟨rfl, vld_of hv⟩)
                  clear hv
                  by_cases hx0 : x = 0
                  · subst hx0
                    go_wp2_with (first | (go_at_call 32; refine (valid2_any _ _ _ HV.out).mono ?_; rintro e w' ⟨rfl, rfl⟩))
                    go_roundw
                    case rel => exact ⟨j + 1, by omega, by go_num, HN, q4⟩
                    case measure => simp [intOf]; omega
                  · go_wp2_with (first | (go_at_call 32; refine (valid2_any _ _ _ HV.out).mono ?_; rintro e w' ⟨rfl, rfl⟩))
                    go_roundw
                    case rel => exact ⟨j + 1, by omega, by go_num, HN, q4⟩
                    case measure => simp [intOf]; omega
                | false =>
                  have HV := Lib.hid hv
                  have HF : Hid (chk1 r = 1) := BAD.out (fun h => by
                    rcases h with h | h
                    · exact vld_off hv h.2
                    · have := h.2.1
                      simp at this)
                  have hx0 : ¬ x = 0 := fun h => by subst h; exact vld_off hv ⟨by omega, by omega⟩
                  clear hv
                  go_wp2_with (first | (go_at_call 32; refine (valid2_any _ _ _ HV.out).mono ?_; rintro e w' ⟨rfl, rfl⟩))
                  go_ret
                  exact ⟨by rw [HF.out]; rfl, q3.out⟩
              · by_cases hok : x = 0 ∧ 1 ≤ y ∧ y ≤ (nm : Int)
                · obtain ⟨rfl, h3, h4⟩ := hok
                  have HN : Hid (∀ p ∈ r.res.take (j + 1), pieceOk r.mat.length p) := NEXT.out (.inr ⟨rfl, h3, by rw [HNM.out]; exact h4⟩)
                  go_wp2
                  go_roundw
                  case rel => exact ⟨j + 1, by omega, by go_num, HN, q4⟩
                  case measure => simp [intOf]; omega
                · have HF : Hid (chk1 r = 1) := BAD.out (fun h => by
                    rcases h with h | h
                    · exact hy h.1
                    · exact hok ⟨h.1, h.2.1, by have := h.2.2; rw [HNM.out] at this; exact this⟩)
                  by_cases hx0 : x = 0
                  · subst hx0
                    by_cases hy1 : y < 1
                    · clear hok
                      go_wp2
                      go_ret
                      exact ⟨by rw [HF.out]; rfl, q3.out⟩
                    · have hy2 : ¬ y ≤ (nm : Int) := fun h => hok ⟨rfl, by omega, h⟩
                      clear hok
                      go_wp2
                      go_ret
                      exact ⟨by rw [HF.out]; rfl, q3.out⟩
                  · clear hok
                    go_wp2
                    go_ret
                    exact ⟨by rw [HF.out]; rfl, q3.out⟩
            · obtain rfl : j = nr := by omega
              have HF : Hid (chk1 r = 0) := chk1_zero hsz0.out hset.out (fun p hp => HJ.out p (by rw [List.take_of_length_le (by omega)]; exact hp))
              go_wp2
              go_ret
              exact ⟨by rw [HF.out]; rfl, HB8.out⟩
end Go.Proofs.Ytledbiabdiijhaa
