/-
  ref14.Pack, law14.alive: walks.
-/
import Derived.Test.YteobffcnfigilaaProg
import Derived.Test.YteobffcnfigilaaBase
import Derived.Test.YteobffcnfigilaaTree
import Derived.Test.YteobffcnfigilaaSp8
import Derived.Test.YteobffcnfigilaaSp9
import Derived.WalkKit
import Derived.KernelRfl
import Derived.Outline
namespace Go.Proofs.Yteobffcnfigilaa
open Go.RowKit Go.UtYteobffcnfigilaa
attribute [local go_sem high] cut_l cut_lh cut_lhm cutA_zero
attribute [local go_sem 500] cut_any
set_option maxHeartbeats 2000000 in
theorem pack2_gen (A : Option Addr) (c : Nat) (l : List (List Int)) (w : World) (hR : Rows2 w w.heap.size A l) (hm : l.length ≤ 13) (h20 : ∀ xs ∈ l, xs.length ≤ 20) :
    Calls Try.prog 14 #[.slice A l.length c] w (RetPool w (pack14 l)) := by
  have HR := Lib.hid hR
  have H20 := Lib.hid h20
  clear hR h20
  go_enter Try.func14, Try.ntmps14
  go_wp2
  go_loopw [4] (fun i wr => ∃ k : Nat, k ≤ l.length ∧ i = .int .i64 k ∧ Hid (PkRel w wr (pack14 (l.take k)))) (fun i _ => l.length - (intOf i).toNat)
  case atStart => exact ⟨0, by omega, rfl, none, 0, none, 0, none, 0, Blk.at_new (by simp), PlAt.nil, (Blk.new _ _ _).alloc _, ((Below.refl _ _).alloc (Nat.le_refl _) _).alloc (by simp) _⟩
  case round =>
    obtain ⟨k, hk, rfl, HK⟩ := hrel
    by_cases h1 : k < l.length
    · obtain ⟨p, hp⟩ : ∃ p, pack14 (l.take k) = p := ⟨_, rfl⟩
      have hsz := pack_len (l.take k) (fun xs hx => H20.out xs (List.mem_of_mem_take hx))
      rw [hp, List.length_take_of_le (by omega)] at hsz
      obtain ⟨z1, z2, z3⟩ := hsz
      have z2' : p.S.length ≤ 12 := by omega
      have z3' : p.L.length ≤ 12 := by omega
      rw [hp] at HK
      obtain ⟨A1, c1, A2, c2, A3, c3, q1, q2, q3, q4⟩ := HK.out
      obtain ⟨b, o, A', c', xs, rfl, hb, hx, hc, l1, l2, hr0⟩ := HR.out.at_ h1
      have hr := (hr0.below q4).lt
      have HCC := Lib.hid hc
      clear hr0 hc
      have h20 : xs.length ≤ 20 := H20.out xs (List.mem_of_getElem? hx.out)
      obtain ⟨p2, hp2⟩ : ∃ p2, pack14 (l.take (k + 1)) = p2 := ⟨_, rfl⟩
      have HE : Hid (add14 p xs = p2) := by rw [← hp, ← hp2]; exact pack_snoc hx.out
      have HP2 := Lib.hid hp2
      have HQ1 := Lib.hid q1
      have HQ2 := Lib.hid q2
      have HQ3 := Lib.hid q3
      have HQ4 := Lib.hid q4
      have HRR := Lib.hid hr
      have HPK := Lib.hid (hp ▸ own_pack (l.take k))
      clear hp hp2 HK z2 z3 q1 q2 q3 q4 hr
      have HVP : Hid (own14 p = p) := HPK.out
      go_wp2_with fail
      refine wp_region_tree (fun w' => Below w.heap.size w w') (.float 1 (.float 2 (.float 3 (.float 4 (.one 0 (.one 5 (.float 6 (.float 7 (.float 8 (.one 9 .done)))))))))) (by kernel_rfl) (by kernel_rfl) (fun _ _ d _ _ h => by cases d <;> exact h) HQ4.out.drew ?_
      obtain ⟨d1, hdr, hbd⟩ : ∃ d, d = wr.drew ∧ Below wr.heap.size wr d := ⟨_, rfl, (Below.refl _ _).drew⟩
      rw [← hdr]
      clear hdr
      have hbc := hbd
      have HZ2 := Lib.hid (HQ1.out.after hbc)
      have HP2 := Lib.hid ((HQ2.out.below hbc).lt)
      have HY2 := Lib.hid (HQ3.out.after hbc)
      have HB2 := Lib.hid (below_then HQ4.out hbc (Nat.le_refl _))
      have HT2 := Lib.hid ((HRR.out.below hbc).lt)
      clear hbc HQ1 HQ2 HQ3 HQ4 HRR hbd
      repeat (first
        | (refine wpTr_fskip (by simp only [List.getElem?_toArray, List.getElem?_cons_zero, List.getElem?_cons_succ]; rfl) (by rfl) ?_
           simp only [Act.put, List.setIfInBounds_toArray, List.set_cons_zero, List.set_cons_succ])
        | (refine wpTr_float (v := ?_) (by simp only [List.getElem?_toArray, List.getElem?_cons_zero, List.getElem?_cons_succ]; rfl) (by rfl) (fun w' hS => ?_) ?_
           rotate_left
           (have hq1 := (hS.cell (p := ⟨b, o + k, none⟩) hb).trans HCC.out; go_simp; first | done | rfl)
           simp only [Act.put, List.setIfInBounds_toArray, List.set_cons_zero, List.set_cons_succ]))
      refine wpTr_one ?_
      refine stepTr_K (by simp only [List.getElem?_toArray, List.getElem?_cons_zero]; rfl) (by rfl) (fun K hK => ?_)
      obtain ⟨e0, e1, e2⟩ := HZ2.out.cells3
      have hlt := HZ2.out.lt
      go_simp
      clear e0 e1 e2 hlt
      refine hK.out _ _ HB2.out ?_
      clear hK K
      try simp only [Act.put, List.setIfInBounds_toArray, List.set_cons_zero, List.set_cons_succ]
      refine wpTr_one ?_
      refine stepTr_K (by simp only [List.getElem?_toArray, List.getElem?_cons_zero, List.getElem?_cons_succ]; rfl) (by rfl) (fun K hK => ?_)
      go_simp
      refine (add2_any A1 A2 A3 A' c1 c2 c3 c' p xs _ HP2.out ⟨by omega, by omega, by omega⟩ HT2.out l1 l2 (by omega) p HVP.out).mono ?_
      rintro e w2 ⟨B1, d1, B2, d2, B3, d3, rfl, g1, g2⟩
      rw [HE.out] at g1 ⊢
      have hbc := g2
      have HZ3 := Lib.hid (HZ2.out.after hbc)
      have HP3 := Lib.hid ((HP2.out.below hbc).lt)
      have HY3 := Lib.hid (HY2.out.after hbc)
      have HB3 := Lib.hid (below_then HB2.out hbc (Nat.le_refl _))
      have HT3 := Lib.hid ((HT2.out.below hbc).lt)
      have HN3 := Lib.hid (g1)
      clear hbc HZ2 HP2 HY2 HB2 HT2 g1 g2
      refine hK.out _ _ HB3.out ?_
      clear hK K
      try simp only [Act.put, List.setIfInBounds_toArray, List.set_cons_zero, List.set_cons_succ]
      repeat (first
        | (refine wpTr_fskip (by simp only [List.getElem?_toArray, List.getElem?_cons_zero, List.getElem?_cons_succ]; rfl) (by rfl) ?_
           simp only [Act.put, List.setIfInBounds_toArray, List.set_cons_zero, List.set_cons_succ])
        | (refine wpTr_float (v := ?_) (by simp only [List.getElem?_toArray, List.getElem?_cons_zero, List.getElem?_cons_succ]; rfl) (by rfl) (fun w' hS => ?_) ?_
           rotate_left
           (have hq1 := (hS.cell (p := ⟨b, o + k, none⟩) hb).trans HCC.out; go_simp; first | done | rfl)
           simp only [Act.put, List.setIfInBounds_toArray, List.set_cons_zero, List.set_cons_succ]))
      refine wpTr_one ?_
      refine stepTr_K (by simp only [List.getElem?_toArray, List.getElem?_cons_zero, List.getElem?_cons_succ]; rfl) (by rfl) (fun K hK => ?_)
      obtain ⟨e0, e1, e2⟩ := HZ3.out.cells3
      obtain ⟨f0, f1, f2⟩ := HZ3.out.free3
      have hly := HZ3.out.lt
      go_simp
      clear e0 e1 e2 f0 f1 f2
      refine hK.out _ _ (below_set3 (g := w.heap.size + 1) HB3.out (by omega) _ _ _) ?_
      clear hK K
      try simp only [Act.put, List.setIfInBounds_toArray, List.set_cons_zero, List.set_cons_succ]
      refine wpTr_done ?_
      go_wp2
      go_roundw
      case rel =>
        refine ⟨k + 1, by omega, by go_num, ?_⟩
        rw [HP2.out]
        exact ⟨B1, d1, B2, d2, B3, d3, Blk.set3 HZ3.out, PlAt.apart3 HN3.out HZ3.out _ _ _, HY3.out.far3 (by omega) _ _ _, below_set3 HB3.out (by omega) _ _ _⟩
      case measure => simp [intOf]; omega
    · rw [List.take_of_length_le (by omega)] at HK
      obtain ⟨A1, c1, A2, c2, A3, c3, q1, q2, q3, q4⟩ := HK.out
      have HQ1 := Lib.hid q1
      have HQ2 := Lib.hid q2
      have HQ3 := Lib.hid q3
      have HQ4 := Lib.hid q4
      obtain ⟨e0, e1, e2⟩ := q1.cells3
      obtain ⟨y0, y1, y2⟩ := q3.cells3
      obtain ⟨f0, f1, f2⟩ := q3.free3
      have hlt := q1.lt
      have hlt3 := q3.lt
      clear HK q1 q2 q3 q4
      go_wp2
      obtain ⟨q0, q1, q2⟩ := (Blk.set3 (a := .slice A1 (pack14 l).C.length c1) (b := .slice A2 (pack14 l).S.length c2) (c := .slice A3 (pack14 l).L.length c3) HQ3.out).cells3
      refine bodyPost_ret (v := .agg #[.slice A1 (pack14 l).C.length c1, .slice A2 (pack14 l).S.length c2, .slice A3 (pack14 l).L.length c3]) (by simp [results, Try.results14, go_sem, q0, q1, q2]) rfl ?_
      exact ⟨A1, c1, A2, c2, A3, c3, rfl, PlAt.apart3 HQ2.out HQ3.out _ _ _, below_set3 HQ4.out (by omega) _ _ _⟩
theorem pack2_any (A : Option Addr) (c : Nat) (l : List (List Int)) (w : World) (hR : Rows2 w w.heap.size A l) (hf : fewB l = true) :
    Calls Try.prog 14 #[.slice A l.length c] w (RetPool w (pack14 l)) := pack2_gen A c l w hR (by have := (few_of hf).1; omega) (few_of hf).2
theorem rows2_three {w : World} {g a0 a1 a2 : Nat} {t : TypeId} {x y z : List Int} (h : Blk w g t #[.slice (some ⟨a0, 0, none⟩) x.length x.length, .slice (some ⟨a1, 0, none⟩) y.length y.length, .slice (some ⟨a2, 0, none⟩) z.length z.length])
    (h0 : Row w w.heap.size (some ⟨a0, 0, none⟩) (ints x)) (h1 : Row w w.heap.size (some ⟨a1, 0, none⟩) (ints y)) (h2 : Row w w.heap.size (some ⟨a2, 0, none⟩) (ints z)) (l0 : x.length ≤ maxLen) (l1 : y.length ≤ maxLen) (l2 : z.length ≤ maxLen) :
    Rows2 w w.heap.size (some ⟨g, 0, none⟩) [x, y, z] := by
  refine ⟨_, rfl, h.row rfl, fun k xs hk => ?_⟩
  match k with
  | 0 => simp at hk; subst hk; exact ⟨_, _, rfl, Nat.le_refl _, l0, h0⟩
  | 1 => simp at hk; subst hk; exact ⟨_, _, rfl, Nat.le_refl _, l1, h1⟩
  | 2 => simp at hk; subst hk; exact ⟨_, _, rfl, Nat.le_refl _, l2, h2⟩
  | k + 3 => simp at hk
set_option maxHeartbeats 2000000 in
theorem alive_any (w : World) : Calls Try.prog 15 #[] w fun e w' => e = .returned (.bool true) ∧ Below w.heap.size w w' := by
  go_enter Try.func15, Try.ntmps15
  go_wp2_with fail
  have HB0 := Lib.hid (Below.refl w.heap.size w)
  obtain ⟨n1, hv, hbb, hk0, hk1, hk2, hk3⟩ : ∃ v, v = ((((w.alloc (.cells #[.int .i64 1, .int .i64 2, .int .i64 3] 3)).alloc (.cells #[.int .i64 2, .int .i64 3, .int .i64 4] 3)).alloc (.cells #[.int .i64 3, .int .i64 4] 3)).alloc (.cells #[.slice (some ⟨w.heap.size, 0, none⟩) 3 3, .slice (some ⟨w.heap.size + 1, 0, none⟩) 3 3, .slice (some ⟨w.heap.size + 1 + 1, 0, none⟩) 2 2] 25)) ∧ Below w.heap.size w v ∧ Blk v (w.heap.size) 3 #[.int .i64 1, .int .i64 2, .int .i64 3] ∧ Blk v (w.heap.size + 1) 3 #[.int .i64 2, .int .i64 3, .int .i64 4] ∧ Blk v (w.heap.size + 1 + 1) 3 #[.int .i64 3, .int .i64 4] ∧ Blk v (w.heap.size + 1 + 1 + 1) 25 #[.slice (some ⟨w.heap.size, 0, none⟩) 3 3, .slice (some ⟨w.heap.size + 1, 0, none⟩) 3 3, .slice (some ⟨w.heap.size + 1 + 1, 0, none⟩) 2 2] :=
    ⟨_, rfl, ((((Below.refl _ _).alloc (Nat.le_refl _) _).alloc (by simp; try omega) _).alloc (by simp; try omega) _).alloc (by simp; try omega) _, (((Blk.at_new (by simp; try omega)).alloc _).alloc _).alloc _, ((Blk.at_new (by simp; try omega)).alloc _).alloc _, (Blk.at_new (by simp; try omega)).alloc _, Blk.at_new (by simp; try omega)⟩
  rw [← hv]
  clear hv
  have hbc := hbb
  have HB2 := Lib.hid (below_then HB0.out hbc (Nat.le_refl _))
  have K02 := Lib.hid (hk0)
  have K12 := Lib.hid (hk1)
  have K22 := Lib.hid (hk2)
  have K32 := Lib.hid (hk3)
  clear hbc HB0 hbb hk0 hk1 hk2 hk3
  refine (pack_any (some ⟨w.heap.size + 1 + 1 + 1, 0, none⟩) 3 [[1, 2, 3], [2, 3, 4], [3, 4]] _ (rows2_three (x := [1, 2, 3]) (y := [2, 3, 4]) (z := [3, 4]) K32.out (K02.out.row rfl) (K12.out.row rfl) (K22.out.row rfl) (by simp [maxLen]) (by simp [maxLen]) (by simp [maxLen])) (by decide)).mono ?_
  rintro e w3 ⟨A1, c1, A2, c2, A3, c3, rfl, hp, hb⟩
  have hbc := hb
  have HB4 := Lib.hid (below_then HB2.out hbc (Nat.le_refl _))
  have K04 := Lib.hid (K02.out.after hbc)
  have K14 := Lib.hid (K12.out.after hbc)
  have K24 := Lib.hid (K22.out.after hbc)
  have K34 := Lib.hid (K32.out.after hbc)
  have HP4 := Lib.hid (hp)
  clear hbc HB2 K02 K12 K22 K32 hb
  clear hp
  have hP : pack14 [[1, 2, 3], [2, 3, 4], [3, 4]] = ⟨[1, 2, 3, 4], [0, 1, 2], [3, 3, 2]⟩ := by rfl
  have HPP := HP4.out
  rw [hP] at HPP ⊢
  have HPQ := Lib.hid HPP
  clear HPP HP4 hP
  obtain ⟨p, hp⟩ : ∃ p : Pl, p = ⟨[1, 2, 3, 4], [0, 1, 2], [3, 3, 2]⟩ := ⟨_, rfl⟩
  go_wp2_with fail
  rw [← hp] at HPQ
  have HPE := Lib.hid hp
  clear hp
  obtain ⟨n5, hv, hbb, hk0, hk1⟩ : ∃ v, v = ((w3.alloc (.cells #[.slice A1 4 c1, .slice A2 3 c2, .slice A3 3 c3] 27)).alloc (.cells #[.int .i64 5] 3)) ∧ Below w3.heap.size w3 v ∧ Blk v (w3.heap.size) 27 #[.slice A1 4 c1, .slice A2 3 c2, .slice A3 3 c3] ∧ Blk v (w3.heap.size + 1) 3 #[.int .i64 5] :=
    ⟨_, rfl, ((Below.refl _ _).alloc (Nat.le_refl _) _).alloc (by simp; try omega) _, (Blk.at_new (by simp; try omega)).alloc _, Blk.at_new (by simp; try omega)⟩
  rw [← hv]
  clear hv
  have hbc := hbb
  have HB6 := Lib.hid (below_then HB4.out hbc (Nat.le_refl _))
  have HP6 := Lib.hid ((HPQ.out.below hbc).lt)
  have KP6 := Lib.hid (hk0)
  have K56 := Lib.hid (hk1)
  clear hbc HB4 HPQ hbb hk0 hk1
  have hl1 : p.C.length = 4 := by rw [HPE.out]; rfl
  have hl2 : p.S.length = 3 := by rw [HPE.out]; rfl
  have hl3 : p.L.length = 3 := by rw [HPE.out]; rfl
  have HV : Hid (vld14 p = true) := by show _ = _; rw [HPE.out]; decide
  have hcall := addP_yes A1 A2 A3 (some ⟨w3.heap.size + 1, 0, none⟩) c1 c2 c3 1 p [5] _ HP6.out ⟨by omega, by omega, by omega⟩ (K56.out.row rfl) (by simp) (by simp [maxLen]) (by simp) HV.out
  rw [hl1, hl2, hl3] at hcall
  refine (hcall).mono ?_
  rintro e w7 ⟨B1, b1, B2, b2, B3, b3, rfl, hq, hb⟩
  have hbc := hb
  have HB8 := Lib.hid (below_then HB6.out hbc (Nat.le_refl _))
  have HP8 := Lib.hid ((HP6.out.below hbc).lt)
  have KP8 := Lib.hid (KP6.out.after hbc)
  have K58 := Lib.hid (K56.out.after hbc)
  have HR8 := Lib.hid (hq)
  clear hbc HB6 HP6 KP6 K56 hb
  clear hq hcall
  obtain ⟨q, hq⟩ : ∃ q, add14 p [5] = q := ⟨_, rfl⟩
  have HQE : Hid (q = ⟨[1, 2, 3, 4, 5], [0, 1, 2, 4], [3, 3, 2, 1]⟩) := by show _ = _; rw [← hq, HPE.out]; rfl
  have HRR := HR8.out
  rw [hq] at HRR ⊢
  have HRQ := Lib.hid HRR
  clear HRR HR8 hq
  have HL4 : Hid (q.C.length = 5) := by show _ = _; rw [HQE.out]; rfl
  obtain ⟨eKP0, eKP1, eKP2⟩ := KP8.out.cells3
  have lKP := KP8.out.lt
  go_wp2_with fail
  clear eKP0 eKP1 eKP2 lKP
  obtain ⟨n9, hv, hbb, hk0, hk1⟩ : ∃ v, v = ((w7.alloc (.cells #[.slice B1 q.C.length b1, .slice B2 q.S.length b2, .slice B3 q.L.length b3] 27)).alloc (.cells #[.int .i64 2, .int .i64 3] 3)) ∧ Below w7.heap.size w7 v ∧ Blk v (w7.heap.size) 27 #[.slice B1 q.C.length b1, .slice B2 q.S.length b2, .slice B3 q.L.length b3] ∧ Blk v (w7.heap.size + 1) 3 #[.int .i64 2, .int .i64 3] :=
    ⟨_, rfl, ((Below.refl _ _).alloc (Nat.le_refl _) _).alloc (by simp; try omega) _, (Blk.at_new (by simp; try omega)).alloc _, Blk.at_new (by simp; try omega)⟩
  rw [← hv]
  clear hv
  have hbc := hbb
  have HB10 := Lib.hid (below_then HB8.out hbc (Nat.le_refl _))
  have HP10 := Lib.hid ((HP8.out.below hbc).lt)
  have KP10 := Lib.hid (KP8.out.after hbc)
  have HR10 := Lib.hid ((HRQ.out.below hbc).lt)
  have KQ10 := Lib.hid (hk0)
  have K610 := Lib.hid (hk1)
  clear hbc HB8 HP8 KP8 HRQ hbb hk0 hk1
  have hcall := find_any A1 A2 A3 (some ⟨w7.heap.size + 1, 0, none⟩) c1 c2 c3 2 p [2, 3] _ HP10.out ⟨by omega, by omega, by omega⟩ (K610.out.row rfl) (by simp [maxLen]) 0 false (by rw [HPE.out]; decide)
  rw [hl1, hl2, hl3] at hcall
  refine (hcall).mono ?_
  rintro e w11 ⟨rfl, hb⟩
  have hbc := hb
  have HB12 := Lib.hid (below_then HB10.out hbc (Nat.le_refl _))
  have HP12 := Lib.hid ((HP10.out.below hbc).lt)
  have KP12 := Lib.hid (KP10.out.after hbc)
  have HR12 := Lib.hid ((HR10.out.below hbc).lt)
  have KQ12 := Lib.hid (KQ10.out.after hbc)
  have K612 := Lib.hid (K610.out.after hbc)
  clear hbc HB10 HP10 KP10 HR10 KQ10 K610 hb
  clear hcall
  obtain ⟨eKP0, eKP1, eKP2⟩ := KP12.out.cells3
  have lKP := KP12.out.lt
  go_wp2_with fail
  clear eKP0 eKP1 eKP2 lKP
  obtain ⟨n13, hv, hbb, hk0⟩ : ∃ v, v = (w11.alloc (.cells #[.int .i64 1, .int .i64 2, .int .i64 3, .int .i64 4] 3)) ∧ Below w11.heap.size w11 v ∧ Blk v (w11.heap.size) 3 #[.int .i64 1, .int .i64 2, .int .i64 3, .int .i64 4] :=
    ⟨_, rfl, (Below.refl _ _).alloc (Nat.le_refl _) _, Blk.at_new (by simp; try omega)⟩
  rw [← hv]
  clear hv
  have hbc := hbb
  have HB14 := Lib.hid (below_then HB12.out hbc (Nat.le_refl _))
  have HP14 := Lib.hid ((HP12.out.below hbc).lt)
  have KP14 := Lib.hid (KP12.out.after hbc)
  have HR14 := Lib.hid ((HR12.out.below hbc).lt)
  have KQ14 := Lib.hid (KQ12.out.after hbc)
  have KE14 := Lib.hid (hk0)
  clear hbc HB12 HP12 KP12 HR12 KQ12 hbb hk0
  refine (requal_q A1 (some ⟨w11.heap.size, 0, none⟩) _ _ c1 4 p.C [1, 2, 3, 4] _ HP14.out.r1 (KE14.out.row rfl) (by first | rfl | omega) rfl (by have := HL4.out; simp only [maxLen]; omega) (by simp [maxLen]) true (by rw [HPE.out]; decide)).mono ?_
  rintro e w15 ⟨rfl, hb⟩
  have hbc := hb
  have HB16 := Lib.hid (below_then HB14.out hbc (Nat.le_refl _))
  have HP16 := Lib.hid ((HP14.out.below hbc).lt)
  have KP16 := Lib.hid (KP14.out.after hbc)
  have HR16 := Lib.hid ((HR14.out.below hbc).lt)
  have KQ16 := Lib.hid (KQ14.out.after hbc)
  have KE16 := Lib.hid (KE14.out.after hbc)
  clear hbc HB14 HP14 KP14 HR14 KQ14 KE14 hb
  obtain ⟨eKP0, eKP1, eKP2⟩ := KP16.out.cells3
  have lKP := KP16.out.lt
  go_wp2_with fail
  clear eKP0 eKP1 eKP2 lKP
  obtain ⟨n17, hv, hbb, hk0⟩ : ∃ v, v = (w15.alloc (.cells #[.int .i64 0, .int .i64 1, .int .i64 2] 3)) ∧ Below w15.heap.size w15 v ∧ Blk v (w15.heap.size) 3 #[.int .i64 0, .int .i64 1, .int .i64 2] :=
    ⟨_, rfl, (Below.refl _ _).alloc (Nat.le_refl _) _, Blk.at_new (by simp; try omega)⟩
  rw [← hv]
  clear hv
  have hbc := hbb
  have HB18 := Lib.hid (below_then HB16.out hbc (Nat.le_refl _))
  have HP18 := Lib.hid ((HP16.out.below hbc).lt)
  have KP18 := Lib.hid (KP16.out.after hbc)
  have HR18 := Lib.hid ((HR16.out.below hbc).lt)
  have KQ18 := Lib.hid (KQ16.out.after hbc)
  have KE18 := Lib.hid (hk0)
  clear hbc HB16 HP16 KP16 HR16 KQ16 hbb hk0
  refine (requal_q A2 (some ⟨w15.heap.size, 0, none⟩) _ _ c2 3 p.S [0, 1, 2] _ HP18.out.r2 (KE18.out.row rfl) (by first | rfl | omega) rfl (by have := HL4.out; simp only [maxLen]; omega) (by simp [maxLen]) true (by rw [HPE.out]; decide)).mono ?_
  rintro e w19 ⟨rfl, hb⟩
  have hbc := hb
  have HB20 := Lib.hid (below_then HB18.out hbc (Nat.le_refl _))
  have HP20 := Lib.hid ((HP18.out.below hbc).lt)
  have KP20 := Lib.hid (KP18.out.after hbc)
  have HR20 := Lib.hid ((HR18.out.below hbc).lt)
  have KQ20 := Lib.hid (KQ18.out.after hbc)
  have KE20 := Lib.hid (KE18.out.after hbc)
  clear hbc HB18 HP18 KP18 HR18 KQ18 KE18 hb
  obtain ⟨eKQ0, eKQ1, eKQ2⟩ := KQ20.out.cells3
  have lKQ := KQ20.out.lt
  go_wp2_with fail
  clear eKQ0 eKQ1 eKQ2 lKQ
  obtain ⟨n21, hv, hbb, hk0⟩ : ∃ v, v = (w19.alloc (.cells #[.int .i64 1, .int .i64 2, .int .i64 3, .int .i64 4, .int .i64 5] 3)) ∧ Below w19.heap.size w19 v ∧ Blk v (w19.heap.size) 3 #[.int .i64 1, .int .i64 2, .int .i64 3, .int .i64 4, .int .i64 5] :=
    ⟨_, rfl, (Below.refl _ _).alloc (Nat.le_refl _) _, Blk.at_new (by simp; try omega)⟩
  rw [← hv]
  clear hv
  have hbc := hbb
  have HB22 := Lib.hid (below_then HB20.out hbc (Nat.le_refl _))
  have HP22 := Lib.hid ((HP20.out.below hbc).lt)
  have KP22 := Lib.hid (KP20.out.after hbc)
  have HR22 := Lib.hid ((HR20.out.below hbc).lt)
  have KQ22 := Lib.hid (KQ20.out.after hbc)
  have KE22 := Lib.hid (hk0)
  clear hbc HB20 HP20 KP20 HR20 KQ20 hbb hk0
  refine (requal_q B1 (some ⟨w19.heap.size, 0, none⟩) _ _ b1 5 q.C [1, 2, 3, 4, 5] _ HR22.out.r1 (KE22.out.row rfl) (by first | rfl | omega) rfl (by have := HL4.out; simp only [maxLen]; omega) (by simp [maxLen]) true (by rw [HQE.out]; decide)).mono ?_
  rintro e w23 ⟨rfl, hb⟩
  have hbc := hb
  have HB24 := Lib.hid (below_then HB22.out hbc (Nat.le_refl _))
  have HP24 := Lib.hid ((HP22.out.below hbc).lt)
  have KP24 := Lib.hid (KP22.out.after hbc)
  have HR24 := Lib.hid ((HR22.out.below hbc).lt)
  have KQ24 := Lib.hid (KQ22.out.after hbc)
  have KE24 := Lib.hid (KE22.out.after hbc)
  clear hbc HB22 HP22 KP22 HR22 KQ22 KE22 hb
  go_wp2
  go_ret
  exact ⟨rfl, HB24.out⟩
end Go.Proofs.Yteobffcnfigilaa
