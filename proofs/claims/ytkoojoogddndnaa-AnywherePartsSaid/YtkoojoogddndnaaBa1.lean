/-
  anywhere.reached, ref31.after, ref31.single: the state that two classes lead to.
  anywhere.reached, ref31.single.
  anywhere.permitted, ref31.usable.
  The last known state: plain; ref31.Start.
-/
import Derived.Test.YtkoojoogddndnaaBq5
namespace Go.UtYtkoojoogddndnaa
def aft (nx : List (List Int)) (s x y : Int) : Int := dl nx (dl nx s x) y
/-- two classes lead to one state, from every state -/
def sngB (nx : List (List Int)) (x y : Int) : Bool := (List.range nx.length).all fun s => decide (aft nx (s : Int) x y = aft nx 0 x y)
theorem sng_all {nx : List (List Int)} {x y : Int} : sngB nx x y = true ↔ ∀ s : Nat, s < nx.length → aft nx (s : Int) x y = aft nx 0 x y := by
  unfold sngB
  rw [List.all_eq_true]
  constructor
  · intro h s hs
    simpa using h s (List.mem_range.2 hs)
  · intro h s hs
    simpa using h s (List.mem_range.1 hs)
end Go.UtYtkoojoogddndnaa
namespace Go.Proofs.Ytkoojoogddndnaa
open Go.RowKit Go.UtYtkoojoogddndnaa
theorem aft_fit {nx mk : List (List Int)} {k a : Nat} (h : soundP nx mk k a) {s x y : Nat} (hs : s < nx.length) (hx : x < k) (hy : y < k) : ∃ d : Nat, dl nx (s : Int) (x : Int) = (d : Int) ∧ d < nx.length ∧ 0 ≤ aft nx s x y ∧ aft nx s x y < (nx.length : Int) := by
  have h1 := dl_fit h (s := (s : Int)) (c := (x : Int)) ⟨by omega, by omega⟩ ⟨by omega, by omega⟩
  have h2 := dl_fit h (s := dl nx (s : Int) (x : Int)) (c := (y : Int)) h1 ⟨by omega, by omega⟩
  exact ⟨(dl nx (s : Int) (x : Int)).toNat, by omega, by omega, h2.1, h2.2⟩
set_option maxRecDepth 100000 in
set_option maxHeartbeats 1000000 in
theorem reached1_any (gA ga gb : Nat) (A A' : Option Addr) (c c' n m k a : Nat) (nx mk : List (List Int)) (s x y : Nat) (w : World) (hR : Rows2 w w.heap.size A nx) (hn : nx.length = n) (hs : soundP nx mk k a) (T1 T2 T3 : TypeId) (b1 : Blk w gA T1 #[.slice A n c, .slice A' m c']) (b2 : Blk w ga T2 #[.int .i64 (x : Int)]) (b3 : Blk w gb T3 #[.int .i64 (y : Int)]) (h1 : s < n) (h2 : x < k) (h3 : y < k) :
    Calls Try.prog 57 #[.int .i64 (s : Int), .pointer (some ⟨gA, 0, none⟩), .pointer (some ⟨ga, 0, none⟩), .pointer (some ⟨gb, 0, none⟩)] w fun e w' => e = .returned (.int .i64 (aft nx s x y)) ∧ ∃ z, w' = w.drewN z := by
  obtain ⟨d, hd, hdn, _⟩ := aft_fit hs (s := s) (x := x) (y := y) (by omega) h2 h3
  obtain ⟨b, o, b4, o4, c4, rfl, hb, cc1, hb4, cc2, l1, l2⟩ := aut_at hR hs (s := s) (c := x) (by omega) h2
  obtain ⟨b', o', b5, o5, c5, hA, hb', cc3, hb5, cc4, l3, l4⟩ := aut_at hR hs (s := d) (c := y) hdn h3
  injection hA with hA
  injection hA with e1 e2
  subst e1 e2
  rw [hd] at cc2
  have HF : Hid (aft nx s x y = dl nx (d : Int) (y : Int)) := by
    show _ = _
    unfold aft
    rw [hd]
  obtain ⟨r, hr⟩ : ∃ r, dl nx (d : Int) (y : Int) = r := ⟨_, rfl⟩
  rw [hr] at cc4 HF
  obtain ⟨p0, p1, pl⟩ := blk2 b1
  have p2 := b2.cell 0
  have p3 := b3.cell 0
  have l5 := b2.lt
  have l6 := b3.lt
  simp at p2 p3
  have hdn2 : d < n := by omega
  clear hR hs b1 b2 b3 hd hr hn hdn
  go_enter Try.func57, Try.ntmps57
  go_wp2
  go_quiet (fail)
  go_wp2
  go_ret
  exact ⟨by rw [HF.out]; rfl, _, rfl⟩
set_option maxRecDepth 100000 in
set_option maxHeartbeats 1000000 in
theorem after_any (A A' : Option Addr) (c c' n m k a : Nat) (nx mk : List (List Int)) (s x y : Nat) (w : World) (hR : Rows2 w w.heap.size A nx) (hn : nx.length = n) (hs : soundP nx mk k a) (h1 : s < n) (h2 : x < k) (h3 : y < k) :
    Calls Try.prog 58 #[.agg #[.slice A n c, .slice A' m c'], .int .i64 (s : Int), .int .i64 (x : Int), .int .i64 (y : Int)] w fun e w' => e = .returned (.int .i64 (aft nx s x y)) ∧ Below w.heap.size w w' := by
  obtain ⟨w1, hw1, HB1, HK1⟩ := boxV w 26 #[.slice A n c, .slice A' m c']
  obtain ⟨d, hd, hdn, _⟩ := aft_fit hs (s := s) (x := x) (y := y) (by omega) h2 h3
  have hR1 := hR.below HB1.out
  obtain ⟨b, o, b4, o4, c4, rfl, hb, cc1, hb4, cc2, l1, l2⟩ := aut_at hR1 hs (s := s) (c := x) (by omega) h2
  obtain ⟨b', o', b5, o5, c5, hA, hb', cc3, hb5, cc4, l3, l4⟩ := aut_at hR1 hs (s := d) (c := y) hdn h3
  injection hA with hA
  injection hA with e1 e2
  subst e1 e2
  rw [hd] at cc2
  have HF : Hid (aft nx s x y = dl nx (d : Int) (y : Int)) := by
    show _ = _
    unfold aft
    rw [hd]
  obtain ⟨r, hr⟩ : ∃ r, dl nx (d : Int) (y : Int) = r := ⟨_, rfl⟩
  rw [hr] at cc4 HF
  obtain ⟨p0, p1, pl⟩ := blk2 HK1.out
  have hdn2 : d < n := by omega
  have hsz := HB1.out.size
  clear hR hR1 hs hd hr hn hdn
  go_enter Try.func58, Try.ntmps58
  go_upto_region 1 with fail
  rw [← hw1]
  clear hw1
  have hq1 : b < w1.heap.size := by omega
  have hq2 : b4 < w1.heap.size := by omega
  have hq3 : b5 < w1.heap.size := by omega
  go_wp2
  go_quiet (fail)
  go_wp2
  go_ret
  exact ⟨by rw [HF.out]; rfl, below_drewN HB1.out _⟩
end Go.Proofs.Ytkoojoogddndnaa
namespace Go.Proofs.Ytkoojoogddndnaa
open Go.RowKit Go.UtYtkoojoogddndnaa
theorem blk1 {w : World} {g T : Nat} {a : Value} (h : Blk w g T #[a]) : w.cell? ⟨g, 0, none⟩ = some a ∧ g < w.heap.size := ⟨h.cell 0, h.lt⟩
set_option maxRecDepth 100000 in
set_option maxHeartbeats 2000000 in
theorem reached_any (A A' : Option Addr) (c c' m k a : Nat) (nx mk : List (List Int)) (x y : Nat) (w : World) (hR : Rows2 w w.heap.size A nx) (hs : soundP nx mk k a) (h2 : x < k) (h3 : y < k) :
    Calls Try.prog 37 #[.agg #[.slice A nx.length c, .slice A' m c'], .int .i64 (x : Int), .int .i64 (y : Int)] w fun e w' => e = .returned (.tuple #[.int .i64 (if sngB nx x y then aft nx 0 x y else 0), .bool (sngB nx x y)]) ∧ Below w.heap.size w w' := by
  obtain ⟨n, hn⟩ : ∃ n, nx.length = n := ⟨_, rfl⟩
  have HN := Lib.hid hn
  have hn1 := hs.1
  rw [hn] at hn1
  rw [hn]
  obtain ⟨w1, hw1, HB1, HK1⟩ := boxV w 26 #[.slice A n c, .slice A' m c']
  obtain ⟨w2, hw2, HB2', HK2⟩ := boxV w1 3 #[.int .i64 (x : Int)]
  obtain ⟨w3, hw3, HB3', HK3⟩ := boxV w2 3 #[.int .i64 (y : Int)]
  have hz1 : w1.heap.size = w.heap.size + 1 := by rw [hw1]; simp
  have hz2 : w2.heap.size = w.heap.size + 1 + 1 := by rw [hw2, ← hz1]; simp
  have HB3 : Hid (Below w.heap.size w w3) := HB1.out.trans ((HB2'.out.trans (HB3'.out.mono (by omega))).mono (by omega))
  have HKA : Hid (Blk w3 w.heap.size 26 #[.slice A n c, .slice A' m c']) := (HK1.out.after HB2'.out).after HB3'.out
  have HKx : Hid (Blk w3 (w.heap.size + 1) 3 #[.int .i64 (x : Int)]) := by
    have := HK2.out.after HB3'.out
    rw [hz1] at this
    exact this
  have HKy : Hid (Blk w3 (w.heap.size + 1 + 1) 3 #[.int .i64 (y : Int)]) := by
    have := HK3.out
    rw [hz2] at this
    exact this
  obtain ⟨q0, q1, ql⟩ := blk2 HKA.out
  have CR : Hid (∀ (z s : Nat), s < n → Calls Try.prog 57 #[.int .i64 (s : Int), .pointer (some ⟨w.heap.size, 0, none⟩), .pointer (some ⟨w.heap.size + 1, 0, none⟩), .pointer (some ⟨w.heap.size + 1 + 1, 0, none⟩)] (w3.drewN z) fun e w' => e = .returned (.int .i64 (aft nx s x y)) ∧ ∃ z', w' = (w3.drewN z).drewN z') := fun z s hsn =>
    reached1_any w.heap.size (w.heap.size + 1) (w.heap.size + 1 + 1) A A' c c' n m k a nx mk s x y (w3.drewN z) (hR.below HB3.out).lt hn hs _ _ _ (HKA.out.drewN z) (HKx.out.drewN z) (HKy.out.drewN z) hsn h2 h3
  have hmf : ∀ (fn : Fn) (first cap : Array Value) (w : World), (Instr.makeFunc fn first cap).run Try.prog w = .ok (.func fn first cap) w := fun _ _ _ _ => rfl
  obtain ⟨f0, hf0⟩ : ∃ f0, aft nx 0 x y = f0 := ⟨_, rfl⟩
  have HF0 := Lib.hid hf0
  rw [hf0]
  have C0 := CR.out 0 0 (by omega)
  rw [show ((0 : Nat) : Int) = 0 by rfl, hf0] at C0
  replace C0 := Lib.hid C0
  have HSA := Lib.hid (sng_all (nx := nx) (x := (x : Int)) (y := (y : Int)))
  obtain ⟨sb, hsb⟩ : ∃ sb, sngB nx x y = sb := ⟨_, rfl⟩
  rw [hsb] at HSA ⊢
  obtain ⟨rv, hrv⟩ : ∃ rv, (if sb then f0 else 0) = rv := ⟨_, rfl⟩
  have HRV := Lib.hid hrv
  rw [hrv]
  clear hR hs hn hf0 hsb h2 h3 hrv
  go_enter Try.func37, Try.ntmps37
  go_upto_region 1 with fail
  rw [← hw1, ← hw2, ← hw3]
  clear hw1 hw2 hw3 hz1 hz2
  go_wp2_with fail
  refine C0.out.mono ?_
  rintro e w4 ⟨rfl, z, rfl⟩
  go_wp2
  go_loopw [17] (fun i wr => ∃ j : Nat, j ≤ n ∧ i = .int .i64 (j : Int) ∧ Hid (∀ s : Nat, s < j → aft nx (s : Int) x y = f0) ∧ Hid (∃ z, wr = w3.drewN z)) (fun i _ => n - (intOf i).toNat)
  case atStart => exact ⟨0, by omega, rfl, fun s h => by omega, _, rfl⟩
  case round =>
    obtain ⟨j, hj, rfl, HJ, HZ⟩ := hrel
    obtain ⟨z', hz'⟩ := HZ.out
    subst hz'
    by_cases hjn : j < n
    · have CJ := CR.out z' j hjn
      obtain ⟨v, hv⟩ : ∃ v, aft nx (j : Int) x y = v := ⟨_, rfl⟩
      rw [hv] at CJ
      replace CJ := Lib.hid CJ
      have HVJ := Lib.hid hv
      clear hv
      by_cases hvf : v = f0
      · have HJ' : Hid (∀ s : Nat, s < j + 1 → aft nx (s : Int) x y = f0) := fun s h => by
          by_cases e : s = j
          · subst e
            rw [HVJ.out, hvf]
          · exact HJ.out s (by omega)
        subst hvf
        go_wp2_with fail
        refine CJ.out.mono ?_
        rintro e w5 ⟨rfl, z5, rfl⟩
        go_wp2
        go_roundw
        case rel => exact ⟨j + 1, by omega, by go_num, HJ', _, rfl⟩
        case measure => simp [intOf]; omega
      · have dv : (v != f0) = true := by simpa using hvf
        have HSB : Hid (sb = false) := bool_neg HSA.out (fun h => hvf (by rw [← HVJ.out, h j (by rw [HN.out]; exact hjn), HF0.out]))
        go_wp2_with fail
        refine CJ.out.mono ?_
        rintro e w5 ⟨rfl, z5, rfl⟩
        go_wp2
        go_ret2
        refine ⟨by rw [← HRV.out, HSB.out]; rfl, by first | exact below_drewN (below_drewN HB3.out _) _ | exact below_drewN HB3.out _⟩
    · have HSB : Hid (sb = true) := HSA.out.2 (fun s hs => by rw [HF0.out]; exact HJ.out s (by rw [HN.out] at hs; omega))
      go_wp2
      go_ret2
      exact ⟨by rw [← HRV.out, HSB.out]; rfl, below_drewN HB3.out _⟩
set_option maxRecDepth 100000 in
set_option maxHeartbeats 2000000 in
theorem single_any (A A' : Option Addr) (c c' m k a : Nat) (nx mk : List (List Int)) (x y : Nat) (w : World) (hR : Rows2 w w.heap.size A nx) (hs : soundP nx mk k a) (h2 : x < k) (h3 : y < k) :
    Calls Try.prog 38 #[.agg #[.slice A nx.length c, .slice A' m c'], .int .i64 (x : Int), .int .i64 (y : Int)] w fun e w' => e = .returned (.int .i64 (if sngB nx x y then aft nx 0 x y else -1)) ∧ Below w.heap.size w w' := by
  obtain ⟨n, hn⟩ : ∃ n, nx.length = n := ⟨_, rfl⟩
  have HN := Lib.hid hn
  have hn1 := hs.1
  rw [hn] at hn1
  rw [hn]
  obtain ⟨w1, hw1, HB1, HK1⟩ := boxV w 26 #[.slice A n c, .slice A' m c']
  obtain ⟨q0, q1, ql⟩ := blk2 HK1.out
  have CR : Hid (∀ (u : World), Below w.heap.size w u → ∀ s : Nat, s < n → Calls Try.prog 58 #[.agg #[.slice A n c, .slice A' m c'], .int .i64 (s : Int), .int .i64 (x : Int), .int .i64 (y : Int)] u fun e w' => e = .returned (.int .i64 (aft nx s x y)) ∧ Below u.heap.size u w') := fun u hu s hsn =>
    after_any A A' c c' n m k a nx mk s x y u (hR.below hu).lt hn hs hsn h2 h3
  obtain ⟨f0, hf0⟩ : ∃ f0, aft nx 0 x y = f0 := ⟨_, rfl⟩
  have HF0 := Lib.hid hf0
  rw [hf0]
  have C0 := fun (u : World) (hu : Below w.heap.size w u) => CR.out u hu 0 (by omega)
  rw [show ((0 : Nat) : Int) = 0 by rfl, hf0] at C0
  replace C0 := Lib.hid C0
  have HSA := Lib.hid (sng_all (nx := nx) (x := (x : Int)) (y := (y : Int)))
  obtain ⟨sb, hsb⟩ : ∃ sb, sngB nx x y = sb := ⟨_, rfl⟩
  rw [hsb] at HSA ⊢
  obtain ⟨rv, hrv⟩ : ∃ rv, (if sb then f0 else -1) = rv := ⟨_, rfl⟩
  have HRV := Lib.hid hrv
  rw [hrv]
  have hbs1 := HB1.out.size
  have HST : Hid (∀ s : Nat, s < 1 → aft nx (s : Int) x y = f0) := fun s h => by
    obtain rfl : s = 0 := by omega
    exact HF0.out
  clear hR hs hn hf0 hsb h2 h3 hrv
  go_enter Try.func38, Try.ntmps38
  go_upto_region 1 with fail
  rw [← hw1]
  clear hw1
  go_wp2
  go_loopw [7] (fun i wr => ∃ j : Nat, 1 ≤ j ∧ j ≤ n ∧ i = .int .i64 (j : Int) ∧ Hid (∀ s : Nat, s < j → aft nx (s : Int) x y = f0) ∧ Hid (Below w1.heap.size w1 wr)) (fun i _ => n - (intOf i).toNat)
  case atStart => exact ⟨1, by omega, by omega, rfl, HST, Below.refl _ _⟩
  case round =>
    obtain ⟨j, hj1, hj, rfl, HJ, HB⟩ := hrel
    have hbr := HB.out.size
    have HBw := Lib.hid (HB1.out.trans (HB.out.mono hbs1))
    have HKr := Lib.hid (HK1.out.after HB.out)
    by_cases hjn : j < n
    · obtain ⟨v, hv⟩ : ∃ v, aft nx (j : Int) x y = v := ⟨_, rfl⟩
      have CJ := fun (u : World) (hu : Below w.heap.size w u) => CR.out u hu j hjn
      rw [hv] at CJ
      replace CJ := Lib.hid CJ
      have HVJ := Lib.hid hv
      obtain ⟨p0, p1, pl⟩ := blk2 HKr.out
      clear hv
      go_wp2
      refine wp_region_tree (fun w' => Blk w' w.heap.size 26 #[.slice A n c, .slice A' m c']) (.float 0 (.float 1 (.float 2 (.float 3 (.float 5 (.float 6 (.float 7 (.one 4 (.one 8 (.float 9 .done)))))))))) (by kernel_rfl) (by kernel_rfl) (fun _ _ d _ _ h => by cases d <;> exact h) HKr.out.drew ?_
      repeat (first
        | (refine wpTr_fskip (by simp only [List.getElem?_toArray, List.getElem?_cons_zero, List.getElem?_cons_succ]; rfl) (by rfl) ?_
           simp only [Act.put, List.setIfInBounds_toArray, List.set_cons_zero, List.set_cons_succ])
        | (refine wpTr_float (v := ?_) (by simp only [List.getElem?_toArray, List.getElem?_cons_zero, List.getElem?_cons_succ]; rfl) (by rfl) (fun w' hS => ?_) ?_
           rotate_left
           ((obtain ⟨e0', e1', el'⟩ := blk2 hS); go_simp; first | done | rfl)
           simp only [Act.put, List.setIfInBounds_toArray, List.set_cons_zero, List.set_cons_succ]))
      refine wpTr_one ?_
      refine stepTr_K (by simp only [List.getElem?_toArray, List.getElem?_cons_zero, List.getElem?_cons_succ]; rfl) (by rfl) (fun K hK => ?_)
      go_simp
      refine (CJ.out wr.drew HBw.out.drew).mono ?_
      rintro e w4 ⟨rfl, hb4⟩
      have HBL4 : Hid (Below wr.heap.size wr w4) := (Below.refl _ _).drew.trans hb4
      have HBw4 := Lib.hid (HBw.out.trans (HBL4.out.mono HBw.out.size))
      have HK4 := Lib.hid (HKr.out.after HBL4.out)
      refine hK.out _ _ HK4.out ?_
      clear hK K hb4
      try simp only [Act.put, List.setIfInBounds_toArray, List.set_cons_zero, List.set_cons_succ]
      refine wpTr_one ?_
      refine stepTr_K (by simp only [List.getElem?_toArray, List.getElem?_cons_zero, List.getElem?_cons_succ]; rfl) (by rfl) (fun K hK => ?_)
      go_simp
      refine (C0.out w4 HBw4.out).mono ?_
      rintro e w5 ⟨rfl, hb5⟩
      have HBL5 : Hid (Below wr.heap.size wr w5) := HBL4.out.trans (hb5.mono HBL4.out.size)
      have HB5 : Hid (Below w1.heap.size w1 w5) := HB.out.trans (HBL5.out.mono hbr)
      have HBw5 := Lib.hid (HB1.out.trans (HB5.out.mono hbs1))
      have HK5 := Lib.hid (HKr.out.after HBL5.out)
      refine hK.out _ _ HK5.out ?_
      clear hK K hb5
      try simp only [Act.put, List.setIfInBounds_toArray, List.set_cons_zero, List.set_cons_succ]
      repeat (first
        | (refine wpTr_fskip (by simp only [List.getElem?_toArray, List.getElem?_cons_zero, List.getElem?_cons_succ]; rfl) (by rfl) ?_
           simp only [Act.put, List.setIfInBounds_toArray, List.set_cons_zero, List.set_cons_succ])
        | (refine wpTr_float (v := ?_) (by simp only [List.getElem?_toArray, List.getElem?_cons_zero, List.getElem?_cons_succ]; rfl) (by rfl) (fun w' hS => ?_) ?_
           rotate_left
           ((skip); go_simp; first | done | rfl)
           simp only [Act.put, List.setIfInBounds_toArray, List.set_cons_zero, List.set_cons_succ]))
      refine wpTr_done ?_
      by_cases hvf : v = f0
      · have HJ' : Hid (∀ s : Nat, s < j + 1 → aft nx (s : Int) x y = f0) := fun s h => by
          by_cases e : s = j
          · subst e
            rw [HVJ.out, hvf]
          · exact HJ.out s (by omega)
        subst hvf
        go_wp2
        go_roundw
        case rel => exact ⟨j + 1, by omega, by omega, by go_num, HJ', HB5⟩
        case measure => simp [intOf]; omega
      · have dv : (v != f0) = true := by simpa using hvf
        have HSB : Hid (sb = false) := bool_neg HSA.out (fun h => hvf (by rw [← HVJ.out, h j (by rw [HN.out]; exact hjn), HF0.out]))
        go_wp2
        go_ret
        exact ⟨by rw [← HRV.out, HSB.out]; rfl, HBw5.out⟩
    · have HSB : Hid (sb = true) := HSA.out.2 (fun s hs => by rw [HF0.out]; exact HJ.out s (by rw [HN.out] at hs; omega))
      obtain ⟨p0, p1, pl⟩ := blk2 HKr.out
      go_wp2_with fail
      refine (C0.out wr HBw.out).mono ?_
      rintro e w5 ⟨rfl, hb5⟩
      have HB5 := Lib.hid (HBw.out.trans (hb5.mono HBw.out.size))
      clear hb5
      go_wp2
      go_ret
      exact ⟨by rw [← HRV.out, HSB.out]; rfl, HB5.out⟩
end Go.Proofs.Ytkoojoogddndnaa
namespace Go.Proofs.Ytkoojoogddndnaa
open Go.RowKit Go.UtYtkoojoogddndnaa
set_option maxRecDepth 100000 in
set_option maxHeartbeats 2000000 in
theorem permitted_any (x : TA) (t : BT) (A : Option Addr) (c : Nat) (l : List Int) (a : Int) (w : World) (h : TabAt w w.heap.size x t) (hsm : t.cls.length ≤ 1000 ∧ t.act.length ≤ 1000) (hl : Row w w.heap.size A (ints l)) (hll : l.length ≤ 100000) (v : Bool) (hv : v = true ↔ (0 ≤ a ∧ a ≤ (l.length : Int)) ∧ fitsL t l ∧ validT t) :
    Calls Try.prog 39 #[x.val t, .slice A l.length c, .int .i64 a] w fun e w' => e = .returned (.bool v) ∧ Below w.heap.size w w' := by
  have CV := Lib.hid (fun (u : World) (hu : Below w.heap.size w u) (v' : Bool) (hv' : v' = true ↔ validT t) => valid_any x t u (h.below hu).lt hsm v' hv')
  unfold TA.val at CV ⊢
  have HV := Lib.hid hv
  have HL := Lib.hid hl
  obtain ⟨w1, hw1, HB1, HK1⟩ := boxT w 28 x t
  obtain ⟨q0, q1, q2, q3, q4, q5, ql⟩ := tab6 HK1.out
  obtain ⟨n, hn⟩ : ∃ n, l.length = n := ⟨_, rfl⟩
  obtain ⟨nc, hnc⟩ : ∃ n, t.cls.length = n := ⟨_, rfl⟩
  have HN := Lib.hid hn
  have HNC := Lib.hid hnc
  rw [hnc] at q0 hw1 CV hsm
  rw [hn] at hll HV
  rw [hn, hnc]
  clear h hv hl hn hnc
  by_cases ga : 0 ≤ a ∧ a ≤ (n : Int)
  case neg =>
    have HF : Hid (v = false) := bool_neg HV.out (fun h => ga h.1)
    obtain ⟨vb, hvb⟩ : ∃ vb : Bool, vb = true ↔ validT t := by
      by_cases hp : validT t
      · exact ⟨true, fun _ => hp, fun _ => rfl⟩
      · exact ⟨false, fun h => (by cases h), fun h => absurd h hp⟩
    have CVB := Lib.hid (CV.out w1 HB1.out vb hvb)
    clear hvb
    by_cases g0 : a < 0
    · have d1 : decide (a < 0) = true := decide_eq_true g0
      cases vb
      all_goals
        go_enter Try.func39, Try.ntmps39
        go_upto_region 1 with fail
        rw [← hw1]
        clear hw1
        go_wp2_with fail
        refine CVB.out.mono ?_
        rintro e w2 ⟨rfl, hb2⟩
        have HB2 := Lib.hid (HB1.out.trans (hb2.mono HB1.out.size))
        clear hb2
        go_wp2
        go_ret
        exact ⟨ret_bool HF.out.symm, HB2.out⟩
    · have d1 : decide (a < 0) = false := decide_eq_false g0
      have g1 : (n : Int) < a := by omega
      have d2 : decide ((n : Int) < a) = true := decide_eq_true g1
      cases vb
      all_goals
        go_enter Try.func39, Try.ntmps39
        go_upto_region 1 with fail
        rw [← hw1]
        clear hw1
        go_wp2_with fail
        refine CVB.out.mono ?_
        rintro e w2 ⟨rfl, hb2⟩
        have HB2 := Lib.hid (HB1.out.trans (hb2.mono HB1.out.size))
        clear hb2
        go_wp2
        go_ret
        exact ⟨ret_bool HF.out.symm, HB2.out⟩
  case pos =>
    have d1 : decide (a < 0) = false := decide_eq_false (by omega)
    have d2 : decide ((n : Int) < a) = false := decide_eq_false (by omega)
    by_cases gv : validT t
    case neg =>
      have HF : Hid (v = false) := bool_neg HV.out (fun h => gv h.2.2)
      go_enter Try.func39, Try.ntmps39
      go_upto_region 1 with fail
      rw [← hw1]
      clear hw1
      go_wp2_with fail
      refine (CV.out w1 HB1.out false ⟨fun h => (by cases h), fun h => absurd h gv⟩).mono ?_
      rintro e w2 ⟨rfl, hb2⟩
      have HB2 := Lib.hid (HB1.out.trans (hb2.mono HB1.out.size))
      clear hb2
      go_wp2
      go_ret
      exact ⟨ret_bool HF.out.symm, HB2.out⟩
    case pos =>
      go_enter Try.func39, Try.ntmps39
      go_upto_region 1 with fail
      rw [← hw1]
      clear hw1
      go_wp2_with fail
      refine (CV.out w1 HB1.out true ⟨fun _ => gv, fun _ => rfl⟩).mono ?_
      rintro e w2 ⟨rfl, hb2⟩
      have HB2 := Lib.hid (HB1.out.trans (hb2.mono HB1.out.size))
      have HK2 := Lib.hid (HK1.out.after hb2)
      clear hb2 q0 q1 q2 q3 q4 q5 ql
      obtain ⟨q0, q1, q2, q3, q4, q5, ql⟩ := tab6 HK2.out
      rw [HNC.out] at q0
      go_wp2
      go_loopw [24] (fun i wr => ∃ k : Nat, k ≤ n ∧ i = .int .i64 (k : Int) ∧ Hid (∀ y ∈ l.take k, 0 ≤ y ∧ y < (nc : Int)) ∧ wr = w2) (fun i _ => n - (intOf i).toNat)
      case atStart => exact ⟨0, by omega, rfl, fun r hr => by simp at hr, rfl⟩
      case round =>
        obtain ⟨k, hk, rfl, HK, hw⟩ := hrel
        subst wr
        by_cases hkn : k < n
        · obtain ⟨b, o, y, rfl, hb, hx, cc⟩ := (HL.out.below HB2.out).at_int (k := k) (by rw [HN.out]; exact hkn)
          have hbl : b < w2.heap.size := by have := HB2.out.size; omega
          by_cases g1 : y < 0
          · have HF : Hid (v = false) := bool_neg HV.out (fun h => by have := h.2.1 y (List.mem_of_getElem? hx.out); omega)
            go_wp2
            go_ret
            exact ⟨ret_bool HF.out.symm, HB2.out⟩
          · have e1 : decide (y < 0) = false := decide_eq_false g1
            by_cases g2 : (nc : Int) ≤ y
            · have HF : Hid (v = false) := bool_neg HV.out (fun h => by have := h.2.1 y (List.mem_of_getElem? hx.out); rw [HNC.out] at this; omega)
              go_wp2
              go_ret
              exact ⟨ret_bool HF.out.symm, HB2.out⟩
            · have HK' := Lib.hid (all_snoc (P := fun y : Int => 0 ≤ y ∧ y < (nc : Int)) HK.out hx.out ⟨by omega, by omega⟩)
              go_wp2
              go_roundw
              case rel => exact ⟨k + 1, by omega, by go_num, HK', by trivial⟩
              case measure => simp [intOf]; omega
        · have HA : Hid (fitsL t l) := fun y hy => by rw [HNC.out]; exact all_take HK.out (by rw [HN.out]; omega) y hy
          have HF : Hid (v = true) := HV.out.2 ⟨ga, HA.out, gv⟩
          go_wp2
          go_ret
          exact ⟨ret_bool HF.out.symm, HB2.out⟩
set_option maxRecDepth 100000 in
set_option maxHeartbeats 2000000 in
theorem usable31_any (x : TA) (t : BT) (A : Option Addr) (c : Nat) (l : List Int) (a : Int) (w : World) (h : TabAt w w.heap.size x t) (hsm : t.cls.length ≤ 1000 ∧ t.act.length ≤ 1000) (hl : Row w w.heap.size A (ints l)) (hll : l.length ≤ 100000) (v : Bool) (hv : v = true ↔ (0 ≤ a ∧ a ≤ (l.length : Int)) ∧ fitsL t l ∧ validT t) :
    Calls Try.prog 40 #[x.val t, .slice A l.length c, .int .i64 a] w fun e w' => e = .returned (.bool v) ∧ Below w.heap.size w w' := by
  have CV := Lib.hid (fun (u : World) (hu : Below w.heap.size w u) (v' : Bool) (hv' : v' = true ↔ validT t) => valid29_any x t u (h.below hu).lt hsm v' hv')
  unfold TA.val at CV ⊢
  have HV := Lib.hid hv
  have HL := Lib.hid hl
  obtain ⟨w1, hw1, HB1, HK1⟩ := boxT w 28 x t
  obtain ⟨q0, q1, q2, q3, q4, q5, ql⟩ := tab6 HK1.out
  obtain ⟨n, hn⟩ : ∃ n, l.length = n := ⟨_, rfl⟩
  obtain ⟨nc, hnc⟩ : ∃ n, t.cls.length = n := ⟨_, rfl⟩
  have HN := Lib.hid hn
  have HNC := Lib.hid hnc
  rw [hnc] at q0 hw1 CV hsm
  rw [hn] at hll HV
  rw [hn, hnc]
  clear h hv hl hn hnc
  by_cases ga : 0 ≤ a ∧ a ≤ (n : Int)
  case neg =>
    have HF : Hid (v = false) := bool_neg HV.out (fun h => ga h.1)
    by_cases g0 : a < 0
    · have d1 : decide (a < 0) = true := decide_eq_true g0
      go_enter Try.func40, Try.ntmps40
      go_upto_region 1 with fail
      rw [← hw1]
      clear hw1
      go_wp2
      go_ret
      exact ⟨ret_bool HF.out.symm, HB1.out⟩
    · have d1 : decide (a < 0) = false := decide_eq_false g0
      have g1 : (n : Int) < a := by omega
      have d2 : decide ((n : Int) < a) = true := decide_eq_true g1
      go_enter Try.func40, Try.ntmps40
      go_upto_region 1 with fail
      rw [← hw1]
      clear hw1
      go_wp2
      go_ret
      exact ⟨ret_bool HF.out.symm, HB1.out⟩
  case pos =>
    have d1 : decide (a < 0) = false := decide_eq_false (by omega)
    have d2 : decide ((n : Int) < a) = false := decide_eq_false (by omega)
    by_cases gv : validT t
    case neg =>
      have HF : Hid (v = false) := bool_neg HV.out (fun h => gv h.2.2)
      go_enter Try.func40, Try.ntmps40
      go_upto_region 1 with fail
      rw [← hw1]
      clear hw1
      go_wp2_with fail
      refine (CV.out w1 HB1.out false ⟨fun h => (by cases h), fun h => absurd h gv⟩).mono ?_
      rintro e w2 ⟨rfl, hb2⟩
      have HB2 := Lib.hid (HB1.out.trans (hb2.mono HB1.out.size))
      clear hb2
      go_wp2
      go_ret
      exact ⟨ret_bool HF.out.symm, HB2.out⟩
    case pos =>
      go_enter Try.func40, Try.ntmps40
      go_upto_region 1 with fail
      rw [← hw1]
      clear hw1
      go_wp2_with fail
      refine (CV.out w1 HB1.out true ⟨fun _ => gv, fun _ => rfl⟩).mono ?_
      rintro e w2 ⟨rfl, hb2⟩
      have HB2 := Lib.hid (HB1.out.trans (hb2.mono HB1.out.size))
      have HK2 := Lib.hid (HK1.out.after hb2)
      clear hb2 q0 q1 q2 q3 q4 q5 ql
      obtain ⟨q0, q1, q2, q3, q4, q5, ql⟩ := tab6 HK2.out
      rw [HNC.out] at q0
      go_wp2
      go_loopw [24] (fun i wr => ∃ k : Nat, k ≤ n ∧ i = .int .i64 (k : Int) ∧ Hid (∀ y ∈ l.take k, 0 ≤ y ∧ y < (nc : Int)) ∧ wr = w2) (fun i _ => n - (intOf i).toNat)
      case atStart => exact ⟨0, by omega, rfl, fun r hr => by simp at hr, rfl⟩
      case round =>
        obtain ⟨k, hk, rfl, HK, hw⟩ := hrel
        subst wr
        by_cases hkn : k < n
        · obtain ⟨b, o, y, rfl, hb, hx, cc⟩ := (HL.out.below HB2.out).at_int (k := k) (by rw [HN.out]; exact hkn)
          have hbl : b < w2.heap.size := by have := HB2.out.size; omega
          by_cases g1 : y < 0
          · have HF : Hid (v = false) := bool_neg HV.out (fun h => by have := h.2.1 y (List.mem_of_getElem? hx.out); omega)
            go_wp2
            go_ret
            exact ⟨ret_bool HF.out.symm, HB2.out⟩
          · have e1 : decide (y < 0) = false := decide_eq_false g1
            by_cases g2 : (nc : Int) ≤ y
            · have HF : Hid (v = false) := bool_neg HV.out (fun h => by have := h.2.1 y (List.mem_of_getElem? hx.out); rw [HNC.out] at this; omega)
              go_wp2
              go_ret
              exact ⟨ret_bool HF.out.symm, HB2.out⟩
            · have HK' := Lib.hid (all_snoc (P := fun y : Int => 0 ≤ y ∧ y < (nc : Int)) HK.out hx.out ⟨by omega, by omega⟩)
              go_wp2
              go_roundw
              case rel => exact ⟨k + 1, by omega, by go_num, HK', by trivial⟩
              case measure => simp [intOf]; omega
        · have HA : Hid (fitsL t l) := fun y hy => by rw [HNC.out]; exact all_take HK.out (by rw [HN.out]; omega) y hy
          have HF : Hid (v = true) := HV.out.2 ⟨ga, HA.out, gv⟩
          go_wp2
          go_ret
          exact ⟨ret_bool HF.out.symm, HB2.out⟩
end Go.Proofs.Ytkoojoogddndnaa
namespace Go.UtYtkoojoogddndnaa
/-- the last position up to n that follows a synchronizing pair, and the state there -/
def startN (nx : List (List Int)) (l : List Int) : Nat → Nat × Int
  | n + 2 => if sngB nx (l.getD n 0) (l.getD (n + 1) 0) then (n + 2, aft nx 0 (l.getD n 0) (l.getD (n + 1) 0)) else startN nx l (n + 1)
  | _ => (0, 0)
theorem start_run {nx mk : List (List Int)} {k a : Nat} {l : List Int} (hs : soundP nx mk k a) (hl : ∀ c ∈ l, 0 ≤ c ∧ c < (k : Int)) : ∀ n, n ≤ l.length → (startN nx l n).1 ≤ n ∧ (startN nx l n).2 = runA nx 0 (l.take (startN nx l n).1)
  | 0, _ => ⟨Nat.le_refl _, rfl⟩
  | 1, _ => ⟨by simp [startN], rfl⟩
  | n + 2, h => by
    unfold startN
    by_cases hc : sngB nx (l.getD n 0) (l.getD (n + 1) 0) = true
    · rw [if_pos hc]
      refine ⟨Nat.le_refl _, ?_⟩
      obtain ⟨x, hx⟩ : ∃ x, l[n]? = some x := ⟨_, List.getElem?_eq_getElem (by omega)⟩
      obtain ⟨y, hy⟩ : ∃ x, l[n + 1]? = some x := ⟨_, List.getElem?_eq_getElem (by omega)⟩
      have e1 : l.getD n 0 = x := by rw [List.getD_eq_getElem?_getD, hx]; rfl
      have e2 : l.getD (n + 1) 0 = y := by rw [List.getD_eq_getElem?_getD, hy]; rfl
      rw [e1, e2] at hc ⊢
      obtain ⟨h1, h2⟩ := List.getElem?_eq_some_iff.1 hx
      obtain ⟨h3, h4⟩ := List.getElem?_eq_some_iff.1 hy
      have ht : l.take (n + 2) = l.take n ++ [x] ++ [y] := by
        rw [show n + 2 = n + 1 + 1 by omega, List.take_succ_eq_append_getElem h3, h4, List.take_succ_eq_append_getElem h1, h2]
      rw [ht, runA_snoc, runA_snoc]
      have hf := runA_fit hs (l.take n) 0 ⟨by omega, by have := hs.1.1; omega⟩ (fun c hc => hl c (List.mem_of_mem_take hc))
      obtain ⟨s, hsn⟩ : ∃ s : Nat, runA nx 0 (l.take n) = (s : Int) := ⟨(runA nx 0 (l.take n)).toNat, by omega⟩
      rw [hsn] at hf ⊢
      exact (sng_all.1 hc s (by omega)).symm
    · rw [if_neg hc]
      have := start_run hs hl (n + 1) (by omega)
      exact ⟨by omega, this.2⟩
end Go.UtYtkoojoogddndnaa
