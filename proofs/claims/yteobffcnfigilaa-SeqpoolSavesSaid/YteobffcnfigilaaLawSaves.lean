/-
  SeqpoolSaves: for every input the law returns true, and its arguments read as before. No condition.
-/
import Derived.Test.YteobffcnfigilaaRows
import Derived.Test.YteobffcnfigilaaLift
import Derived.Test.YteobffcnfigilaaLst
import Derived.Test.YteobffcnfigilaaSp10
import Derived.Test.YteobffcnfigilaaTree
import Derived.Deep.DeepCutAuto
import Derived.Deep.CutBlock
import Derived.IntWalk
namespace Go.Proofs.Yteobffcnfigilaa.LSaves
open Go.ChangeShapes Go.WideShapes Go.ChangeAt Go.RowKit Go.UtYteobffcnfigilaa Go.Joins
theorem total_snoc {l : List (List Int)} {k : Nat} {xs : List Int} (h : l[k]? = some xs) : total (l.take (k + 1)) = total (l.take k) + xs.length := by
  obtain ⟨hk, rfl⟩ := List.getElem?_eq_some_iff.1 h
  unfold total
  rw [List.take_succ_eq_append_getElem hk]
  simp only [List.map_append, List.sum_append, List.map_cons, List.map_nil, List.sum_cons, List.sum_nil, Nat.add_zero]
attribute [local go_sem high] cut_l cut_lh cut_lhm cutA_zero
attribute [local go_sem 500] cut_any
set_option maxRecDepth 100000 in
set_option maxHeartbeats 4000000 in
theorem walk (w : World) (A : Option Addr) (c : Nat) (l : List (List Int)) (lc : l.length ≤ c) (lm : c ≤ maxLen) (hA : Rows2 w w.heap.size A l) (u : Int) (hu : 0 ≤ u ∧ u ≤ 255) (v : Int) (hv : 0 ≤ v ∧ v ≤ 255) (z : Int) (hz2 : 0 ≤ z ∧ z ≤ 255) :
    Calls Try.prog 6 #[.slice A l.length c, .int .u8 u, .int .u8 v, .int .u8 z] w fun e w' => e = .returned (.bool true) ∧ Below w.heap.size w w' := by
  have hlm := Nat.le_trans lc lm
  have HA0 := Lib.hid hA
  clear hA
  have HB0 := Lib.hid (Below.refl w.heap.size w)
  obtain ⟨bHD, hd⟩ : ∃ b, fewB l = b := ⟨_, rfl⟩
  have HD := Lib.hid hd
  cases bHD with
  | false =>
    clear hd
    go_enter Try.func6, Try.ntmps6
    go_wp2_with fail
    refine (few_any _ _ _ _ _ HA0.out hlm _ HD.out).mono ?_
    rintro e w' ⟨rfl, rfl⟩
    go_wp2_with fail
    refine (alive_any _).mono ?_
    rintro e w1 ⟨rfl, hb⟩
    have hbc := hb
    have HA2 := Lib.hid ((HA0.out.below hbc).lt)
    have HB2 := Lib.hid (below_then HB0.out hbc (Nat.le_refl _))
    clear hbc HA0 HB0 hb
    go_wp2
    go_ret
    exact ⟨rfl, HB2.out⟩
  | true =>
    obtain ⟨h12, h20⟩ := few_of hd
    have H20 := Lib.hid h20
    clear hd h20
    by_cases h0 : l.length = 0
    · have hz : ((l.length : Int) == 0) = true := beq_iff_eq.2 (by omega)
      clear h0
      go_enter Try.func6, Try.ntmps6
      go_wp2_with fail
      refine (few_any _ _ _ _ _ HA0.out hlm _ HD.out).mono ?_
      rintro e w' ⟨rfl, rfl⟩
      go_wp2_with fail
      refine (alive_any _).mono ?_
      rintro e w3 ⟨rfl, hb⟩
      have hbc := hb
      have HA4 := Lib.hid ((HA0.out.below hbc).lt)
      have HB4 := Lib.hid (below_then HB0.out hbc (Nat.le_refl _))
      clear hbc HA0 HB0 hb
      go_wp2
      go_ret
      exact ⟨rfl, HB4.out⟩
    · have hz : ((l.length : Int) == 0) = false := beq_eq_false_iff_ne.2 (by omega)
      have hpos : 0 < l.length := by omega
      clear h0
      go_enter Try.func6, Try.ntmps6
      go_wp2_with fail
      refine (few_any _ _ _ _ _ HA0.out hlm _ HD.out).mono ?_
      rintro e w' ⟨rfl, rfl⟩
      go_wp2_with fail
      refine (pack_any A c l _ HA0.out HD.out).mono ?_
      rintro e w5 ⟨A1, c1, A2, c2, A3, c3, rfl, hp, hb⟩
      have hbc := hb
      have HA6 := Lib.hid ((HA0.out.below hbc).lt)
      have HB6 := Lib.hid (below_then HB0.out hbc (Nat.le_refl _))
      have P16 := Lib.hid (hp)
      clear hbc HA0 HB0 hb
      clear hp
      go_upto_block 0 with fail
      obtain ⟨n7, hv, hbb, hk0⟩ : ∃ v, v = (w5.alloc (.cells #[.slice A1 (pack14 l).C.length c1, .slice A2 (pack14 l).S.length c2, .slice A3 (pack14 l).L.length c3] 27)) ∧ Below w5.heap.size w5 v ∧ Blk v (w5.heap.size) 27 #[.slice A1 (pack14 l).C.length c1, .slice A2 (pack14 l).S.length c2, .slice A3 (pack14 l).L.length c3] :=
        ⟨_, rfl, (Below.refl _ _).alloc (Nat.le_refl _) _, Blk.at_new (by simp; try omega)⟩
      rw [← hv]
      clear hv
      have hbc := hbb
      have HA8 := Lib.hid ((HA6.out.below hbc).lt)
      have HB8 := Lib.hid (below_then HB6.out hbc (Nat.le_refl _))
      have P18 := Lib.hid ((P16.out.below hbc).lt)
      have KP8 := Lib.hid (hk0)
      clear hbc HA6 HB6 P16 hbb hk0
      go_cut [10, 11] (fun s10 _ wx => s10 = .int .i64 (total l : Int) ∧ n7 = wx)
      case first =>
        go_wp2
        go_loop [10, 11] (fun s i => ∃ k : Nat, k ≤ l.length ∧ i = .int .i64 (k : Int) ∧ ∃ m : Nat, m ≤ 20 * k ∧ s = .int .i64 (m : Int) ∧ Hid (total (l.take k) = m)) (fun _ i => l.length - (intOf i).toNat)
        case atStart => exact ⟨0, by omega, rfl, 0, by omega, rfl, rfl⟩
        case round =>
          obtain ⟨k, hk, rfl, m, hm, rfl, HM⟩ := hrel
          by_cases h1 : k < l.length
          · obtain ⟨b, o, A', c', xs, rfl, hb, hx, hc, l1, l2, hr⟩ := HA8.out.at_ h1
            have hx20 := H20.out xs (List.mem_of_getElem? hx.out)
            have HM2 : Hid (total (l.take (k + 1)) = m + xs.length) := by rw [← HM.out]; exact total_snoc hx.out
            clear hr
            go_wp2
            go_round
            case rel => exact ⟨k + 1, by omega, by go_num, m + xs.length, by omega, by go_num, HM2⟩
            case measure => simp [intOf]; omega
          · have HM2 : Hid (total l = m) := by
              have := HM.out
              rwa [List.take_of_length_le (by omega)] at this
            go_wp2
            go_meet
            case rel => exact ⟨by rw [HM2.out], rfl⟩
      case rest =>
        obtain ⟨rfl, rfl⟩ := hcut
        obtain ⟨x0, rfl⟩ := Int.eq_ofNat_of_zero_le hu.1
        obtain ⟨x1, rfl⟩ := Int.eq_ofNat_of_zero_le hv.1
        obtain ⟨x2, rfl⟩ := Int.eq_ofNat_of_zero_le hz2.1
        have y0 : x0 ≤ 255 := by omega
        have y1 : x1 ≤ 255 := by omega
        have y2 : x2 ≤ 255 := by omega
        clear hu hv hz2
        obtain ⟨j, hj⟩ : ∃ j, j = x0 % l.length := ⟨_, rfl⟩
        have hjl : j < l.length := by rw [hj]; exact Nat.mod_lt _ hpos
        obtain ⟨b, o, A', c', xs, rfl, hb, hx, hc, l1, l2, hr⟩ := HA8.out.at_ hjl
        have HR0 := Lib.hid hr
        have hx20 := H20.out xs (List.mem_of_getElem? hx.out)
        clear hr
        rw [hj] at hc
        go_upto_region 10 with fail
        obtain ⟨lo, hlo⟩ : ∃ lo, lo = x1 % (xs.length + 1) := ⟨_, rfl⟩
        have hlo1 : lo ≤ xs.length := by have := Nat.mod_lt x1 (show 0 < xs.length + 1 by omega); omega
        have HLO := Lib.hid hlo
        clear hlo hj
        go_cut [13] (fun s13 wx => s13 = .int .i64 (lo : Int) ∧ n7 = wx)
        case first =>
          go_wp2
          go_meet
          case rel => exact ⟨by rw [HLO.out]; congr 1, rfl⟩
        case rest =>
          obtain ⟨rfl, rfl⟩ := hcut
          go_upto_region 11 with fail
          obtain ⟨hi, hhi⟩ : ∃ hi, hi = lo + x2 % (xs.length + 1 - lo) := ⟨_, rfl⟩
          have hhi1 : hi ≤ xs.length := by have := Nat.mod_lt x2 (show 0 < xs.length + 1 - lo by omega); omega
          have hhi2 : lo ≤ hi := by omega
          go_cut [14] (fun s14 wx => s14 = .int .i64 (hi : Int) ∧ n7 = wx)
          case first =>
            have m1 : (0 : Int) < (xs.length : Int) + 1 - (lo : Int) := by omega
            have m2 : (xs.length : Int) + 1 - (lo : Int) = ((xs.length + 1 - lo : Nat) : Int) := by omega
            have m3 : (x2 : Int) % ((xs.length : Int) + 1 - (lo : Int)) = ((x2 % (xs.length + 1 - lo) : Nat) : Int) := by rw [m2]; rfl
            have m4 : x2 % (xs.length + 1 - lo) ≤ 255 := Nat.le_trans (Nat.mod_le _ _) y2
            have M3 := Lib.hid m3
            have HHI := Lib.hid hhi
            clear m2 m3 hhi
            go_wp2
            all_goals first
              | (exfalso; omega)
              | (go_meet
                 case rel =>
                   refine ⟨?_, rfl⟩
                   congr 1
                   rw [M3.out, HHI.out]
                   first | omega | (rw [IntWalk.wrap64_in _ ⟨by omega, by omega⟩]; omega))
          case rest =>
            obtain ⟨rfl, rfl⟩ := hcut
            have HHI := Lib.hid hhi
            clear hhi
            obtain ⟨seq, hseq⟩ : ∃ seq, seq = (xs.drop lo).take (hi - lo) := ⟨_, rfl⟩
            have HSE : Hid (seq.length = hi - lo) := by show _ = _; rw [hseq]; simp; omega
            have HSR : Hid (Row n7 n7.heap.size (cutA A' c' lo 1) (ints seq)) := by
              have hr := HR0.out.cut (l := lo) (m := c') (s := 1) (j := hi - lo) (.inl (by rw [ints_len]; omega))
              rw [Nat.mul_one] at hr
              rw [hseq, ints_take, ints_drop]
              exact hr
            obtain ⟨z1, z2, z3⟩ := pack_len l H20.out
            have HPT : Hid (put14 (pack14 l).C seq = (pack14 l).C) := by rw [hseq]; exact pack_part hx.out lo (hi - lo) (by omega)
            have hsz := pack_size l
            obtain ⟨p, hp⟩ : ∃ p, pack14 l = p := ⟨_, rfl⟩
            have HOP : Hid (own14 p = p) := by show _ = _; rw [← hp]; exact own_pack l
            rw [hp] at z1 z2 z3 HPT hsz
            obtain ⟨q, hq⟩ : ∃ q, add14 p seq = q := ⟨_, rfl⟩
            have HQ := Lib.hid hq
            have HQC : Hid (q.C = p.C) := by show _ = _; rw [← hq]; exact HPT.out
            have v1 : ((p.S.length : Int) == (l.length : Int)) = true := by simp; omega
            have v2 : decide ((p.C.length : Int) ≤ (total l : Int)) = true := decide_eq_true (by omega)
            have v2n : decide (p.C.length ≤ total l) = true := decide_eq_true hsz
            have z2a : p.S.length ≤ 12 := by omega
            have z3a : p.L.length ≤ 12 := by omega
            have HPQ := Lib.hid hp
            have k1 : (lo : Int) ≤ (hi : Int) := by omega
            have k2 : (hi : Int) ≤ (c' : Int) := by omega
            rw [hp] at P18 KP8
            clear hseq hp hq z2 z3
            go_wp2_with fail
            refine wp_region_tree (fun w' => Below w.heap.size w w' ∧ Blk w' w5.heap.size 27 #[.slice A1 p.C.length c1, .slice A2 p.S.length c2, .slice A3 p.L.length c3]) (.float 0 (.float 1 (.float 2 (.float 3 (.float 4 (.two 5 (.float 6 (.float 7 (.float 8 (.one 9 (.one 10 (.float 11 .done)))))) 9 (.one 5 (.float 6 (.float 7 (.float 8 (.one 10 (.float 11 .done)))))))))))) (by kernel_rfl) (by kernel_rfl) (fun _ _ d _ _ h => by cases d <;> exact h) ⟨HB8.out.drew, KP8.out.drew⟩ ?_
            obtain ⟨d9, hdr, hbd⟩ : ∃ d, d = n7.drew ∧ Below n7.heap.size n7 d := ⟨_, rfl, (Below.refl _ _).drew⟩
            rw [← hdr]
            clear hdr
            have hbc := hbd
            have HB10 := Lib.hid (below_then HB8.out hbc (Nat.le_refl _))
            have P110 := Lib.hid ((P18.out.below hbc).lt)
            have KP10 := Lib.hid (KP8.out.after hbc)
            have HS10 := Lib.hid ((HSR.out.below hbc).lt)
            clear hbc HB8 P18 KP8 HSR hbd
            repeat (first
              | (refine wpTr_fskip (by simp only [List.getElem?_toArray, List.getElem?_cons_zero, List.getElem?_cons_succ]; rfl) (by rfl) ?_
                 simp only [Act.put, List.setIfInBounds_toArray, List.set_cons_zero, List.set_cons_succ])
              | (refine wpTr_float (v := ?_) (by simp only [List.getElem?_toArray, List.getElem?_cons_zero, List.getElem?_cons_succ]; rfl) (by rfl) (fun w' hS => ?_) ?_
                 rotate_left
                 (obtain ⟨hSb, hSk⟩ := hS; obtain ⟨e0, e1, e2⟩ := hSk.cells3; have hls := hSk.lt; go_simp; first | done | rfl)
                 simp only [Act.put, List.setIfInBounds_toArray, List.set_cons_zero, List.set_cons_succ]))
            refine wpTr_two ?_ ?_
            · refine stepTr_K (by simp only [List.getElem?_toArray, List.getElem?_cons_zero, List.getElem?_cons_succ]; rfl) (by rfl) (fun K hK => ?_)
              go_simp
              have hcall := addP_any A1 A2 A3 (cutA A' c' lo 1) c1 c2 c3 (c' - lo) p seq _ P110.out ⟨by omega, by omega, by omega⟩ HS10.out (by rw [HSE.out]; omega) (by omega) (by rw [HSE.out]; omega) p HOP.out
              rw [HQ.out, HSE.out] at hcall
              refine (hcall).mono ?_
              rintro e w11 ⟨B1, b1, B2, b2, B3, b3, rfl, hp, hb⟩
              have hbc := hb
              have HB12 := Lib.hid (below_then HB10.out hbc (Nat.le_refl _))
              have P112 := Lib.hid ((P110.out.below hbc).lt)
              have KP12 := Lib.hid (KP10.out.after hbc)
              have HS12 := Lib.hid ((HS10.out.below hbc).lt)
              have P212 := Lib.hid (hp)
              clear hbc HB10 P110 KP10 HS10 hb
              clear hp hcall
              refine hK.out _ _ ⟨HB12.out, KP12.out⟩ ?_
              clear hK K
              try simp only [Act.put, List.setIfInBounds_toArray, List.set_cons_zero, List.set_cons_succ]
              repeat (first
                | (refine wpTr_fskip (by simp only [List.getElem?_toArray, List.getElem?_cons_zero, List.getElem?_cons_succ]; rfl) (by rfl) ?_
                   simp only [Act.put, List.setIfInBounds_toArray, List.set_cons_zero, List.set_cons_succ])
                | (refine wpTr_float (v := ?_) (by simp only [List.getElem?_toArray, List.getElem?_cons_zero, List.getElem?_cons_succ]; rfl) (by rfl) (fun w' hS => ?_) ?_
                   rotate_left
                   (obtain ⟨hSb, hSk⟩ := hS; obtain ⟨e0, e1, e2⟩ := hSk.cells3; have hls := hSk.lt; go_simp; first | done | rfl)
                   simp only [Act.put, List.setIfInBounds_toArray, List.set_cons_zero, List.set_cons_succ]))
              refine wpTr_one ?_
              refine stepTr_K (by simp only [List.getElem?_toArray, List.getElem?_cons_zero, List.getElem?_cons_succ]; rfl) (by rfl) (fun K hK => ?_)
              go_simp
              have hge := KP12.out.lt
              have hbs := HB12.out.size
              obtain ⟨n13, hv, hbb, hk0⟩ : ∃ v, v = (w11.alloc (.cells #[.slice none 0 0, .slice none 0 0, .slice none 0 0] 27)) ∧ Below w11.heap.size w11 v ∧ Blk v (w11.heap.size) 27 #[.slice none 0 0, .slice none 0 0, .slice none 0 0] :=
                ⟨_, rfl, (Below.refl _ _).alloc (Nat.le_refl _) _, Blk.at_new (by simp; try omega)⟩
              rw [← hv]
              clear hv
              have hbc := hbb
              have HB14 := Lib.hid (below_then HB12.out hbc (Nat.le_refl _))
              have P114 := Lib.hid ((P112.out.below hbc).lt)
              have KP14 := Lib.hid (KP12.out.after hbc)
              have HS14 := Lib.hid ((HS12.out.below hbc).lt)
              have P214 := Lib.hid ((P212.out.below hbc).lt)
              have KZ14 := Lib.hid (hk0)
              clear hbc HB12 P112 KP12 HS12 P212 hbb hk0
              obtain ⟨tz, htz⟩ : ∃ t, t = w11.heap.size := ⟨_, rfl⟩
              rw [← htz] at KZ14 ⊢
              have htz1 : w5.heap.size < tz := by omega
              have htz2 : w.heap.size ≤ tz := by rw [htz]; exact hbs
              clear htz hge hbs
              refine hK.out _ _ ⟨HB14.out, KP14.out⟩ ?_
              clear hK K
              try simp only [Act.put, List.setIfInBounds_toArray, List.set_cons_zero, List.set_cons_succ]
              refine wpTr_one ?_
              refine stepTr_K (by simp only [List.getElem?_toArray, List.getElem?_cons_zero, List.getElem?_cons_succ]; rfl) (by rfl) (fun K hK => ?_)
              obtain ⟨y0, y1, y2⟩ := KZ14.out.cells3
              obtain ⟨f0, f1, f2⟩ := KZ14.out.free3
              have hlz := KZ14.out.lt
              go_simp
              clear y0 y1 y2 f0 f1 f2
              obtain ⟨st15, hv, bZ, bP, bB, bA, bQ⟩ : ∃ v, v = (((n13.setCell ⟨tz, 0, none⟩ (.slice B1 q.C.length b1)).setCell ⟨tz, 1, none⟩ (.slice B2 q.S.length b2)).setCell ⟨tz, 2, none⟩ (.slice B3 q.L.length b3)) ∧ Blk v tz 27 #[.slice B1 q.C.length b1, .slice B2 q.S.length b2, .slice B3 q.L.length b3] ∧ Blk v w5.heap.size 27 #[.slice A1 p.C.length c1, .slice A2 p.S.length c2, .slice A3 p.L.length c3] ∧ Below w.heap.size w v ∧ PlAt v v.heap.size A1 c1 A2 c2 A3 c3 p ∧ PlAt v v.heap.size B1 b1 B2 b2 B3 b3 q :=
                ⟨_, rfl, Blk.set3 KZ14.out, KP14.out.far3 (by omega) _ _ _, below_set3 HB14.out htz2 _ _ _, PlAt.apart3 P114.out KZ14.out _ _ _, PlAt.apart3 P214.out KZ14.out _ _ _⟩
              rw [← hv]
              clear hv
              have KZ16 := Lib.hid bZ
              have KP16 := Lib.hid bP
              have HB16 := Lib.hid bB
              have P116 := Lib.hid bA
              have P216 := Lib.hid bQ
              clear bZ bP bB bA bQ HB14 P114 KP14 HS14 P214 KZ14
              refine hK.out _ _ ⟨HB16.out, KP16.out⟩ ?_
              clear hK K
              try simp only [Act.put, List.setIfInBounds_toArray, List.set_cons_zero, List.set_cons_succ]
              repeat (first
                | (refine wpTr_fskip (by simp only [List.getElem?_toArray, List.getElem?_cons_zero, List.getElem?_cons_succ]; rfl) (by rfl) ?_
                   simp only [Act.put, List.setIfInBounds_toArray, List.set_cons_zero, List.set_cons_succ])
                | (refine wpTr_float (v := ?_) (by simp only [List.getElem?_toArray, List.getElem?_cons_zero, List.getElem?_cons_succ]; rfl) (by rfl) (fun w' hS => ?_) ?_
                   rotate_left
                   (obtain ⟨hSb, hSk⟩ := hS; obtain ⟨e0, e1, e2⟩ := hSk.cells3; have hls := hSk.lt; go_simp; first | done | rfl)
                   simp only [Act.put, List.setIfInBounds_toArray, List.set_cons_zero, List.set_cons_succ]))
              refine wpTr_done ?_
              clear k1 k2
              obtain ⟨e0, e1, e2⟩ := KP16.out.cells3
              obtain ⟨e3, e4, e5⟩ := KZ16.out.cells3
              have l1x := KP16.out.lt
              have l2x := KZ16.out.lt
              go_wp2_with fail
              clear e0 e1 e2 e3 e4 e5 l1x l2x
              refine (requal_q B1 A1 _ _ b1 c1 q.C p.C _ P216.out.r1 P116.out.r1 rfl rfl (by rw [HQC.out]; simp only [maxLen]; omega) (by simp only [maxLen]; omega) true (by rw [HQC.out]; simp)).mono ?_
              rintro e w17 ⟨rfl, hb⟩
              have hbc := hb
              have KZ18 := Lib.hid (KZ16.out.after hbc)
              have KP18 := Lib.hid (KP16.out.after hbc)
              have HB18 := Lib.hid (below_then HB16.out hbc (Nat.le_refl _))
              have P118 := Lib.hid ((P116.out.below hbc).lt)
              have P218 := Lib.hid ((P216.out.below hbc).lt)
              clear hbc KZ16 KP16 HB16 P116 P216 hb
              go_wp2_with fail
              refine (alive_any _).mono ?_
              rintro e w19 ⟨rfl, hb⟩
              have hbc := hb
              have KZ20 := Lib.hid (KZ18.out.after hbc)
              have KP20 := Lib.hid (KP18.out.after hbc)
              have HB20 := Lib.hid (below_then HB18.out hbc (Nat.le_refl _))
              have P120 := Lib.hid ((P118.out.below hbc).lt)
              have P220 := Lib.hid ((P218.out.below hbc).lt)
              clear hbc KZ18 KP18 HB18 P118 P218 hb
              go_wp2
              go_ret
              exact ⟨rfl, HB20.out⟩
            · refine stepTr_K (by simp only [List.getElem?_toArray, List.getElem?_cons_zero, List.getElem?_cons_succ]; rfl) (by rfl) (fun K hK => ?_)
              go_simp
              have hge := KP10.out.lt
              have hbs := HB10.out.size
              obtain ⟨n21, hv, hbb, hk0⟩ : ∃ v, v = (d9.alloc (.cells #[.slice none 0 0, .slice none 0 0, .slice none 0 0] 27)) ∧ Below d9.heap.size d9 v ∧ Blk v (d9.heap.size) 27 #[.slice none 0 0, .slice none 0 0, .slice none 0 0] :=
                ⟨_, rfl, (Below.refl _ _).alloc (Nat.le_refl _) _, Blk.at_new (by simp; try omega)⟩
              rw [← hv]
              clear hv
              have hbc := hbb
              have HB22 := Lib.hid (below_then HB10.out hbc (Nat.le_refl _))
              have P122 := Lib.hid ((P110.out.below hbc).lt)
              have KP22 := Lib.hid (KP10.out.after hbc)
              have HS22 := Lib.hid ((HS10.out.below hbc).lt)
              have KZ22 := Lib.hid (hk0)
              clear hbc HB10 P110 KP10 HS10 hbb hk0
              obtain ⟨tz, htz⟩ : ∃ t, t = d9.heap.size := ⟨_, rfl⟩
              rw [← htz] at KZ22 ⊢
              have htz1 : w5.heap.size < tz := by omega
              have htz2 : w.heap.size ≤ tz := by rw [htz]; exact hbs
              clear htz hge hbs
              refine hK.out _ _ ⟨HB22.out, KP22.out⟩ ?_
              clear hK K
              try simp only [Act.put, List.setIfInBounds_toArray, List.set_cons_zero, List.set_cons_succ]
              refine wpTr_one ?_
              refine stepTr_K (by simp only [List.getElem?_toArray, List.getElem?_cons_zero, List.getElem?_cons_succ]; rfl) (by rfl) (fun K hK => ?_)
              go_simp
              have hcall := addP_any A1 A2 A3 (cutA A' c' lo 1) c1 c2 c3 (c' - lo) p seq _ P122.out ⟨by omega, by omega, by omega⟩ HS22.out (by rw [HSE.out]; omega) (by omega) (by rw [HSE.out]; omega) p HOP.out
              rw [HQ.out, HSE.out] at hcall
              refine (hcall).mono ?_
              rintro e w23 ⟨B1, b1, B2, b2, B3, b3, rfl, hp, hb⟩
              have hbc := hb
              have HB24 := Lib.hid (below_then HB22.out hbc (Nat.le_refl _))
              have P124 := Lib.hid ((P122.out.below hbc).lt)
              have KP24 := Lib.hid (KP22.out.after hbc)
              have HS24 := Lib.hid ((HS22.out.below hbc).lt)
              have KZ24 := Lib.hid (KZ22.out.after hbc)
              have P224 := Lib.hid (hp)
              clear hbc HB22 P122 KP22 HS22 KZ22 hb
              clear hp hcall
              refine hK.out _ _ ⟨HB24.out, KP24.out⟩ ?_
              clear hK K
              try simp only [Act.put, List.setIfInBounds_toArray, List.set_cons_zero, List.set_cons_succ]
              repeat (first
                | (refine wpTr_fskip (by simp only [List.getElem?_toArray, List.getElem?_cons_zero, List.getElem?_cons_succ]; rfl) (by rfl) ?_
                   simp only [Act.put, List.setIfInBounds_toArray, List.set_cons_zero, List.set_cons_succ])
                | (refine wpTr_float (v := ?_) (by simp only [List.getElem?_toArray, List.getElem?_cons_zero, List.getElem?_cons_succ]; rfl) (by rfl) (fun w' hS => ?_) ?_
                   rotate_left
                   (obtain ⟨hSb, hSk⟩ := hS; obtain ⟨e0, e1, e2⟩ := hSk.cells3; have hls := hSk.lt; go_simp; first | done | rfl)
                   simp only [Act.put, List.setIfInBounds_toArray, List.set_cons_zero, List.set_cons_succ]))
              refine wpTr_one ?_
              refine stepTr_K (by simp only [List.getElem?_toArray, List.getElem?_cons_zero, List.getElem?_cons_succ]; rfl) (by rfl) (fun K hK => ?_)
              obtain ⟨y0, y1, y2⟩ := KZ24.out.cells3
              obtain ⟨f0, f1, f2⟩ := KZ24.out.free3
              have hlz := KZ24.out.lt
              go_simp
              clear y0 y1 y2 f0 f1 f2
              obtain ⟨st25, hv, bZ, bP, bB, bA, bQ⟩ : ∃ v, v = (((w23.setCell ⟨tz, 0, none⟩ (.slice B1 q.C.length b1)).setCell ⟨tz, 1, none⟩ (.slice B2 q.S.length b2)).setCell ⟨tz, 2, none⟩ (.slice B3 q.L.length b3)) ∧ Blk v tz 27 #[.slice B1 q.C.length b1, .slice B2 q.S.length b2, .slice B3 q.L.length b3] ∧ Blk v w5.heap.size 27 #[.slice A1 p.C.length c1, .slice A2 p.S.length c2, .slice A3 p.L.length c3] ∧ Below w.heap.size w v ∧ PlAt v v.heap.size A1 c1 A2 c2 A3 c3 p ∧ PlAt v v.heap.size B1 b1 B2 b2 B3 b3 q :=
                ⟨_, rfl, Blk.set3 KZ24.out, KP24.out.far3 (by omega) _ _ _, below_set3 HB24.out htz2 _ _ _, PlAt.apart3 P124.out KZ24.out _ _ _, PlAt.apart3 P224.out KZ24.out _ _ _⟩
              rw [← hv]
              clear hv
              have KZ26 := Lib.hid bZ
              have KP26 := Lib.hid bP
              have HB26 := Lib.hid bB
              have P126 := Lib.hid bA
              have P226 := Lib.hid bQ
              clear bZ bP bB bA bQ HB24 P124 KP24 HS24 KZ24 P224
              refine hK.out _ _ ⟨HB26.out, KP26.out⟩ ?_
              clear hK K
              try simp only [Act.put, List.setIfInBounds_toArray, List.set_cons_zero, List.set_cons_succ]
              repeat (first
                | (refine wpTr_fskip (by simp only [List.getElem?_toArray, List.getElem?_cons_zero, List.getElem?_cons_succ]; rfl) (by rfl) ?_
                   simp only [Act.put, List.setIfInBounds_toArray, List.set_cons_zero, List.set_cons_succ])
                | (refine wpTr_float (v := ?_) (by simp only [List.getElem?_toArray, List.getElem?_cons_zero, List.getElem?_cons_succ]; rfl) (by rfl) (fun w' hS => ?_) ?_
                   rotate_left
                   (obtain ⟨hSb, hSk⟩ := hS; obtain ⟨e0, e1, e2⟩ := hSk.cells3; have hls := hSk.lt; go_simp; first | done | rfl)
                   simp only [Act.put, List.setIfInBounds_toArray, List.set_cons_zero, List.set_cons_succ]))
              refine wpTr_done ?_
              clear k1 k2
              obtain ⟨e0, e1, e2⟩ := KP26.out.cells3
              obtain ⟨e3, e4, e5⟩ := KZ26.out.cells3
              have l1x := KP26.out.lt
              have l2x := KZ26.out.lt
              go_wp2_with fail
              clear e0 e1 e2 e3 e4 e5 l1x l2x
              refine (requal_q B1 A1 _ _ b1 c1 q.C p.C _ P226.out.r1 P126.out.r1 rfl rfl (by rw [HQC.out]; simp only [maxLen]; omega) (by simp only [maxLen]; omega) true (by rw [HQC.out]; simp)).mono ?_
              rintro e w27 ⟨rfl, hb⟩
              have hbc := hb
              have KZ28 := Lib.hid (KZ26.out.after hbc)
              have KP28 := Lib.hid (KP26.out.after hbc)
              have HB28 := Lib.hid (below_then HB26.out hbc (Nat.le_refl _))
              have P128 := Lib.hid ((P126.out.below hbc).lt)
              have P228 := Lib.hid ((P226.out.below hbc).lt)
              clear hbc KZ26 KP26 HB26 P126 P226 hb
              go_wp2_with fail
              refine (alive_any _).mono ?_
              rintro e w29 ⟨rfl, hb⟩
              have hbc := hb
              have KZ30 := Lib.hid (KZ28.out.after hbc)
              have KP30 := Lib.hid (KP28.out.after hbc)
              have HB30 := Lib.hid (below_then HB28.out hbc (Nat.le_refl _))
              have P130 := Lib.hid ((P128.out.below hbc).lt)
              have P230 := Lib.hid ((P228.out.below hbc).lt)
              clear hbc KZ28 KP28 HB28 P128 P228 hb
              go_wp2
              go_ret
              exact ⟨rfl, HB30.out⟩
theorem own : ownKnob Try.prog.godebug = none := by kernel_rfl
theorem laidOut : laidOutB Try.prog = true := by kernel_rfl
set_option maxRecDepth 100000 in
theorem lifted (os : Os) (started : os.Started) (H : Type) (enc : TypeId × Value → H) :
    ReturnsInHanded {} Try.checked os 6 .any (Rows.seqpoolSavesSpec.pre6 enc Try.prog Try.f6 Rows.seqpoolSavesRow.domain false) (Rows.seqpoolSavesSpec.post enc Try.prog Try.f6 false true false false) := by
  refine returnsInHanded_of_change (C := Try.checked) own started (by kernel_rfl) Try.func6
    (ChangeSpec.witness6 (enc := enc) (C := Try.checked) false ⟨#[], #[.slice none 0 0, .int .u8 0, .int .u8 0, .int .u8 0], []⟩ 8 (by kernel_rfl) (by kernel_rfl) (by kernel_rfl) (by kernel_rfl)) ?_
  intro W base args ds gs before hval0 hW hcnd _
  have hval : ∀ (j : Nat) t v, Try.f6.params[j]? = some t → args[j]? = some v → Value.okWide Try.prog W .any base t v := hval0
  have hW' := hW
  obtain ⟨p, q, hA0, hV, rfl, hfz, hnd⟩ := hW
  have hA : DataW.TrodAll enc Try.prog W 0 (fun _ => true) true Try.f6.params.toList args.toList ds p := hA0
  rw [Try.params6] at hA hval
  obtain ⟨v0, v1, v2, v3, d0, d1, d2, d3, p0, p1, p2, p3, rfl, rfl, rfl, h0, h1, h2, h3⟩ := trodAll_four hA
  obtain ⟨rfl, rfl⟩ := trodVars_none hV
  obtain ⟨ad0, le0, ca0, rfl⟩ := okWide_slice Try.underlying22 (hval 0 22 v0 rfl rfl)
  obtain ⟨fu0, hf0⟩ := h0
  obtain ⟨A0, c0, xs0, hv0, hc0, hm0, hR0⟩ := open_rows2 (v := .slice ad0 le0 ca0) Try.underlying22 (by kernel_rfl) Try.underlying25 Try.underlying3 (by kernel_rfl) hf0
  injection hv0 with ea0 eb0 ec0
  subst ea0 eb0 ec0
  obtain ⟨s1, rfl, rfl, rfl, ws1⟩ := open_int Try.underlying5 (hval 1 5 v1 rfl rfl) h1
  obtain ⟨s2, rfl, rfl, rfl, ws2⟩ := open_int Try.underlying5 (hval 2 5 v2 rfl rfl) h2
  obtain ⟨s3, rfl, rfl, rfl, ws3⟩ := open_int Try.underlying5 (hval 3 5 v3 rfl rfl) h3
  refine (walk W ad0 ca0 xs0 hc0 hm0 hR0 s1 (wf_u8 ws1) s2 (wf_u8 ws2) s3 (wf_u8 ws3)).mono fun e W' ⟨he, hb⟩ => ⟨_, he, ?_⟩
  exact law_post laidOut (by rw [Try.params6]; exact of_decide_eq_true (by kernel_rfl)) rfl rfl Try.underlying4 hW' rfl hb
theorem holds : Rows.SeqpoolSavesSaid :=
  OpenClaim.holds_of_wide 6 Try.f6 rfl rfl rfl rfl rfl rfl rfl ⟨rfl, rfl, rfl, rfl, rfl⟩ rfl rfl rfl rfl rfl (by kernel_rfl) Try.func6 (by kernel_rfl)
    (of_decide_eq_true (by kernel_rfl)) (by unfold Func.isWrapper; first | (rw [if_pos (by decide +kernel)]; kernel_rfl) | (rw [if_neg (by decide +kernel)]; exact ⟨rfl, rfl⟩))
    (fun os started H enc _ => lifted os started H enc)
end Go.Proofs.Yteobffcnfigilaa.LSaves
namespace Go.Proofs.Yteobffcnfigilaa
theorem seqpoolSaves_holds : Rows.SeqpoolSavesSaid := LSaves.holds
end Go.Proofs.Yteobffcnfigilaa
