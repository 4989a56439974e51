/-
  anywhere.reached, ref31.single.
-/
import Derived.Test.YtkoojoogddndnaaBa1
namespace Go.Proofs.Ytkoojoogddndnaa
open Go.RowKit Go.UtYtkoojoogddndnaa
theorem blk1 {w : World} {g T : Nat} {a : Value} (h : Blk w g T #[a]) : w.cell? ⟨g, 0, none⟩ = some a ∧ g < w.heap.size := ⟨h.cell 0, h.lt⟩
set_option maxRecDepth 100000 in
set_option maxHeartbeats 2000000 in
theorem reached_any (A A' : Option Addr) (c c' m k a : Nat) (nx mk : List (List Int)) (x y : Nat) (w : World) (hR : Rows2 w w.heap.size A nx) (hs : soundP nx mk k a) (h2 : x < k) (h3 : y < k) :
    Calls Try.prog 37 #[.agg #[.slice A nx.length c, .slice A' m c'], .int .i64 (x : Int), .int .i64 (y : Int)] w fun e w' => e = .returned (.tuple #[.int .i64 (if sngB nx x y then aft nx 0 x y else 0), .bool (sngB nx x y)]) ∧ Below w.heap.size w w' := by
  obtain ⟨n, hn⟩ : ∃ n, nx.length = n := ⟨_, rfl⟩
  have HN := Lib.hid hn
  have hn1 := hs.1
  rw [hn] at hn1
  rw [hn]
  obtain ⟨w1, hw1, HB1, HK1⟩ := boxV w 26 #[.slice A n c, .slice A' m c']
  obtain ⟨w2, hw2, HB2', HK2⟩ := boxV w1 3 #[.int .i64 (x : Int)]
  obtain ⟨w3, hw3, HB3', HK3⟩ := boxV w2 3 #[.int .i64 (y : Int)]
  have hz1 : w1.heap.size = w.heap.size + 1 := by rw [hw1]; simp
  have hz2 : w2.heap.size = w.heap.size + 1 + 1 := by rw [hw2, ← hz1]; simp
  have HB3 : Hid (Below w.heap.size w w3) := HB1.out.trans ((HB2'.out.trans (HB3'.out.mono (by omega))).mono (by omega))
  have HKA : Hid (Blk w3 w.heap.size 26 #[.slice A n c, .slice A' m c']) := (HK1.out.after HB2'.out).after HB3'.out
  have HKx : Hid (Blk w3 (w.heap.size + 1) 3 #[.int .i64 (x : Int)]) := by
    have := HK2.out.after HB3'.out
    rw [hz1] at this
    exact this
  have HKy : Hid (Blk w3 (w.heap.size + 1 + 1) 3 #[.int .i64 (y : Int)]) := by
    have := HK3.out
    rw [hz2] at this
    exact this
  obtain ⟨q0, q1, ql⟩ := blk2 HKA.out
  have CR : Hid (∀ (z s : Nat), s < n → Calls Try.prog 57 #[.int .i64 (s : Int), .pointer (some ⟨w.heap.size, 0, none⟩), .pointer (some ⟨w.heap.size + 1, 0, none⟩), .pointer (some ⟨w.heap.size + 1 + 1, 0, none⟩)] (w3.drewN z) fun e w' => e = .returned (.int .i64 (aft nx s x y)) ∧ ∃ z', w' = (w3.drewN z).drewN z') := fun z s hsn =>
    reached1_any w.heap.size (w.heap.size + 1) (w.heap.size + 1 + 1) A A' c c' n m k a nx mk s x y (w3.drewN z) (hR.below HB3.out).lt hn hs _ _ _ (HKA.out.drewN z) (HKx.out.drewN z) (HKy.out.drewN z) hsn h2 h3
  have hmf : ∀ (fn : Fn) (first cap : Array Value) (w : World), (Instr.makeFunc fn first cap).run Try.prog w = .ok (.func fn first cap) w := fun _ _ _ _ => rfl
  obtain ⟨f0, hf0⟩ : ∃ f0, aft nx 0 x y = f0 := ⟨_, rfl⟩
  have HF0 := Lib.hid hf0
  rw [hf0]
  have C0 := CR.out 0 0 (by omega)
  rw [show ((0 : Nat) : Int) = 0 by rfl, hf0] at C0
  replace C0 := Lib.hid C0
  have HSA := Lib.hid (sng_all (nx := nx) (x := (x : Int)) (y := (y : Int)))
  obtain ⟨sb, hsb⟩ : ∃ sb, sngB nx x y = sb := ⟨_, rfl⟩
  rw [hsb] at HSA ⊢
  obtain ⟨rv, hrv⟩ : ∃ rv, (if sb then f0 else 0) = rv := ⟨_, rfl⟩
  have HRV := Lib.hid hrv
  rw [hrv]
  clear hR hs hn hf0 hsb h2 h3 hrv
  go_enter Try.func37, Try.ntmps37
  go_upto_region 1 with fail
  rw [← hw1, ← hw2, ← hw3]
  clear hw1 hw2 hw3 hz1 hz2
  go_wp2_with fail
  refine C0.out.mono ?_
  rintro e w4 ⟨rfl, z, rfl⟩
  go_wp2
  go_loopw [17] (fun i wr => ∃ j : Nat, j ≤ n ∧ i = .int .i64 (j : Int) ∧ Hid (∀ s : Nat, s < j → aft nx (s : Int) x y = f0) ∧ Hid (∃ z, wr = w3.drewN z)) (fun i _ => n - (intOf i).toNat)
  case atStart => exact ⟨0, by omega, rfl, fun s h => by omega, _, rfl⟩
  case round =>
    obtain ⟨j, hj, rfl, HJ, HZ⟩ := hrel
    obtain ⟨z', hz'⟩ := HZ.out
    subst hz'
    by_cases hjn : j < n
    · have CJ := CR.out z' j hjn
      obtain ⟨v, hv⟩ : ∃ v, aft nx (j : Int) x y = v := ⟨_, rfl⟩
      rw [hv] at CJ
      replace CJ := Lib.hid CJ
      have HVJ := Lib.hid hv
      clear hv
      by_cases hvf : v = f0
      · have HJ' : Hid (∀ s : Nat, s < j + 1 → aft nx (s : Int) x y = f0) := fun s h => by
          by_cases e : s = j
          · subst e
            rw [HVJ.out, hvf]
          · exact HJ.out s (by omega)
        subst hvf
        go_wp2_with fail
        refine CJ.out.mono ?_
        rintro e w5 ⟨rfl, z5, rfl⟩
        go_wp2
        go_roundw
        case rel => exact ⟨j + 1, by omega, by go_num, HJ', _, rfl⟩
        case measure => simp [intOf]; omega
      · have dv : (v != f0) = true := by simpa using hvf
        have HSB : Hid (sb = false) := bool_neg HSA.out (fun h => hvf (by rw [← HVJ.out, h j (by rw [HN.out]; exact hjn), HF0.out]))
        go_wp2_with fail
        refine CJ.out.mono ?_
        rintro e w5 ⟨rfl, z5, rfl⟩
        go_wp2
        go_ret2
        refine ⟨by rw [← HRV.out, HSB.out]; rfl, by first | exact below_drewN (below_drewN HB3.out _) _ | exact below_drewN HB3.out _⟩
    · have HSB : Hid (sb = true) := HSA.out.2 (fun s hs => by rw [HF0.out]; exact HJ.out s (by rw [HN.out] at hs; omega))
      go_wp2
      go_ret2
      exact ⟨by rw [← HRV.out, HSB.out]; rfl, below_drewN HB3.out _⟩
set_option maxRecDepth 100000 in
set_option maxHeartbeats 2000000 in
theorem single_any (A A' : Option Addr) (c c' m k a : Nat) (nx mk : List (List Int)) (x y : Nat) (w : World) (hR : Rows2 w w.heap.size A nx) (hs : soundP nx mk k a) (h2 : x < k) (h3 : y < k) :
    Calls Try.prog 38 #[.agg #[.slice A nx.length c, .slice A' m c'], .int .i64 (x : Int), .int .i64 (y : Int)] w fun e w' => e = .returned (.int .i64 (if sngB nx x y then aft nx 0 x y else -1)) ∧ Below w.heap.size w w' := by
  obtain ⟨n, hn⟩ : ∃ n, nx.length = n := ⟨_, rfl⟩
  have HN := Lib.hid hn
  have hn1 := hs.1
  rw [hn] at hn1
  rw [hn]
  obtain ⟨w1, hw1, HB1, HK1⟩ := boxV w 26 #[.slice A n c, .slice A' m c']
  obtain ⟨q0, q1, ql⟩ := blk2 HK1.out
  have CR : Hid (∀ (u : World), Below w.heap.size w u → ∀ s : Nat, s < n → Calls Try.prog 58 #[.agg #[.slice A n c, .slice A' m c'], .int .i64 (s : Int), .int .i64 (x : Int), .int .i64 (y : Int)] u fun e w' => e = .returned (.int .i64 (aft nx s x y)) ∧ Below u.heap.size u w') := fun u hu s hsn =>
    after_any A A' c c' n m k a nx mk s x y u (hR.below hu).lt hn hs hsn h2 h3
  obtain ⟨f0, hf0⟩ : ∃ f0, aft nx 0 x y = f0 := ⟨_, rfl⟩
  have HF0 := Lib.hid hf0
  rw [hf0]
  have C0 := fun (u : World) (hu : Below w.heap.size w u) => CR.out u hu 0 (by omega)
  rw [show ((0 : Nat) : Int) = 0 by rfl, hf0] at C0
  replace C0 := Lib.hid C0
  have HSA := Lib.hid (sng_all (nx := nx) (x := (x : Int)) (y := (y : Int)))
  obtain ⟨sb, hsb⟩ : ∃ sb, sngB nx x y = sb := ⟨_, rfl⟩
  rw [hsb] at HSA ⊢
  obtain ⟨rv, hrv⟩ : ∃ rv, (if sb then f0 else -1) = rv := ⟨_, rfl⟩
  have HRV := Lib.hid hrv
  rw [hrv]
  have hbs1 := HB1.out.size
  have HST : Hid (∀ s : Nat, s < 1 → aft nx (s : Int) x y = f0) := fun s h => by
    obtain rfl : s = 0 := by omega
    exact HF0.out
  clear hR hs hn hf0 hsb h2 h3 hrv
  go_enter Try.func38, Try.ntmps38
  go_upto_region 1 with fail
  rw [← hw1]
  clear hw1
  go_wp2
  go_loopw [7] (fun i wr => ∃ j : Nat, 1 ≤ j ∧ j ≤ n ∧ i = .int .i64 (j : Int) ∧ Hid (∀ s : Nat, s < j → aft nx (s : Int) x y = f0) ∧ Hid (Below w1.heap.size w1 wr)) (fun i _ => n - (intOf i).toNat)
  case atStart => exact ⟨1, by omega, by omega, rfl, HST, Below.refl _ _⟩
  case round =>
    obtain ⟨j, hj1, hj, rfl, HJ, HB⟩ := hrel
    have hbr := HB.out.size
    have HBw := Lib.hid (HB1.out.trans (HB.out.mono hbs1))
    have HKr := Lib.hid (HK1.out.after HB.out)
    by_cases hjn : j < n
    · obtain ⟨v, hv⟩ : ∃ v, aft nx (j : Int) x y = v := ⟨_, rfl⟩
      have CJ := fun (u : World) (hu : Below w.heap.size w u) => CR.out u hu j hjn
      rw [hv] at CJ
      replace CJ := Lib.hid CJ
      have HVJ := Lib.hid hv
      obtain ⟨p0, p1, pl⟩ := blk2 HKr.out
      clear hv
      go_wp2
      refine wp_region_tree (fun w' => Blk w' w.heap.size 26 #[.slice A n c, .slice A' m c']) (.float 0 (.float 1 (.float 2 (.float 3 (.float 5 (.float 6 (.float 7 (.one 4 (.one 8 (.float 9 .done)))))))))) (by kernel_rfl) (by kernel_rfl) (fun _ _ d _ _ h => by cases d <;> exact h) HKr.out.drew ?_
      repeat (first
        | (refine wpTr_fskip (by simp only [List.getElem?_toArray, List.getElem?_cons_zero, List.getElem?_cons_succ]; rfl) (by rfl) ?_
           simp only [Act.put, List.setIfInBounds_toArray, List.set_cons_zero, List.set_cons_succ])
        | (refine wpTr_float (v := ?_) (by simp only [List.getElem?_toArray, List.getElem?_cons_zero, List.getElem?_cons_succ]; rfl) (by rfl) (fun w' hS => ?_) ?_
           rotate_left
           ((obtain ⟨e0', e1', el'⟩ := blk2 hS); go_simp; first | done | rfl)
           simp only [Act.put, List.setIfInBounds_toArray, List.set_cons_zero, List.set_cons_succ]))
      refine wpTr_one ?_
      refine stepTr_K (by simp only [List.getElem?_toArray, List.getElem?_cons_zero, List.getElem?_cons_succ]; rfl) (by rfl) (fun K hK => ?_)
      go_simp
      refine (CJ.out wr.drew HBw.out.drew).mono ?_
      rintro e w4 ⟨rfl, hb4⟩
      have HBL4 : Hid (Below wr.heap.size wr w4) := (Below.refl _ _).drew.trans hb4
      have HBw4 := Lib.hid (HBw.out.trans (HBL4.out.mono HBw.out.size))
      have HK4 := Lib.hid (HKr.out.after HBL4.out)
      refine hK.out _ _ HK4.out ?_
      clear hK K hb4
      try simp only [Act.put, List.setIfInBounds_toArray, List.set_cons_zero, List.set_cons_succ]
      refine wpTr_one ?_
      refine stepTr_K (by simp only [List.getElem?_toArray, List.getElem?_cons_zero, List.getElem?_cons_succ]; rfl) (by rfl) (fun K hK => ?_)
      go_simp
      refine (C0.out w4 HBw4.out).mono ?_
      rintro e w5 ⟨rfl, hb5⟩
      have HBL5 : Hid (Below wr.heap.size wr w5) := HBL4.out.trans (hb5.mono HBL4.out.size)
      have HB5 : Hid (Below w1.heap.size w1 w5) := HB.out.trans (HBL5.out.mono hbr)
      have HBw5 := Lib.hid (HB1.out.trans (HB5.out.mono hbs1))
      have HK5 := Lib.hid (HKr.out.after HBL5.out)
      refine hK.out _ _ HK5.out ?_
      clear hK K hb5
      try simp only [Act.put, List.setIfInBounds_toArray, List.set_cons_zero, List.set_cons_succ]
      repeat (first
        | (refine wpTr_fskip (by simp only [List.getElem?_toArray, List.getElem?_cons_zero, List.getElem?_cons_succ]; rfl) (by rfl) ?_
           simp only [Act.put, List.setIfInBounds_toArray, List.set_cons_zero, List.set_cons_succ])
        | (refine wpTr_float (v := ?_) (by simp only [List.getElem?_toArray, List.getElem?_cons_zero, List.getElem?_cons_succ]; rfl) (by rfl) (fun w' hS => ?_) ?_
           rotate_left
           ((skip); go_simp; first | done | rfl)
           simp only [Act.put, List.setIfInBounds_toArray, List.set_cons_zero, List.set_cons_succ]))
      refine wpTr_done ?_
      by_cases hvf : v = f0
      · have HJ' : Hid (∀ s : Nat, s < j + 1 → aft nx (s : Int) x y = f0) := fun s h => by
          by_cases e : s = j
          · subst e
            rw [HVJ.out, hvf]
          · exact HJ.out s (by omega)
        subst hvf
        go_wp2
        go_roundw
        case rel => exact ⟨j + 1, by omega, by omega, by go_num, HJ', HB5⟩
        case measure => simp [intOf]; omega
      · have dv : (v != f0) = true := by simpa using hvf
        have HSB : Hid (sb = false) := bool_neg HSA.out (fun h => hvf (by rw [← HVJ.out, h j (by rw [HN.out]; exact hjn), HF0.out]))
        go_wp2
        go_ret
        exact ⟨by rw [← HRV.out, HSB.out]; rfl, HBw5.out⟩
    · have HSB : Hid (sb = true) := HSA.out.2 (fun s hs => by rw [HF0.out]; exact HJ.out s (by rw [HN.out] at hs; omega))
      obtain ⟨p0, p1, pl⟩ := blk2 HKr.out
      go_wp2_with fail
      refine (C0.out wr HBw.out).mono ?_
      rintro e w5 ⟨rfl, hb5⟩
      have HB5 := Lib.hid (HBw.out.trans (hb5.mono HBw.out.size))
      clear hb5
      go_wp2
      go_ret
      exact ⟨by rw [← HRV.out, HSB.out]; rfl, HB5.out⟩
end Go.Proofs.Ytkoojoogddndnaa
