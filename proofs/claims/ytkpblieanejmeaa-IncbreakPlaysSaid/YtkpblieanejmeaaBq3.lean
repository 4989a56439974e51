/-
  segment.Classes.
-/
import Derived.Test.YtkpblieanejmeaaBq2
namespace Go.Proofs.Ytkpblieanejmeaa
open Go.RowKit Go.UtYtkpblieanejmeaa
theorem makeMap_hint {P : Program} {t k e : TypeId} (ht : P.underlying t = some (.map k e)) (n : Int) (w : World) : (Instr.makeMap t (some (.int .i64 n))).run P w = .ok (.map (some w.heap.size)) (w.alloc (.map #[] 0)) := by
  unfold Instr.makeMap
  simp [run_underlying ht, asInt]
  rfl
theorem idxM_get : ∀ (l : List Nm) (s : Nm), distL l → (lkpS (idxM l) s).getD (.int .i64 0) = .int .i64 (idxL l s) := by
  intro l s hd
  by_cases h : s ∈ l
  · obtain ⟨k, hk, e⟩ := List.getElem_of_mem h
    have hk2 : l[k]? = some s := e ▸ List.getElem?_eq_getElem hk
    have hne : ∀ u ∈ l.take k, u ≠ s := fun u hu => by
      obtain ⟨i, hi, e2⟩ := List.getElem_of_mem hu
      rw [List.length_take] at hi
      have hi2 : l[i]? = some u := by
        have := List.getElem?_eq_getElem (l := l.take k) (i := i) (by rw [List.length_take]; exact hi)
        rw [List.getElem?_take, if_pos (by omega), e2] at this
        exact this
      exact hd i k u s (by omega) hi2 hk2
    rw [idxL_hit hne hk2]
    unfold lkpS
    have hf : ((idxM l).find? fun x => decide (s = x.1)) = some (s, .int .i64 (k : Int)) := by
      have hsplit : idxM l = idxM (l.take k) ++ (s, .int .i64 (k : Int)) :: (idxM l).drop (k + 1) := by
        have h1 := idxM_snoc hk2
        have h2 : (idxM l).take (k + 1) = idxM (l.take (k + 1)) := by
          unfold idxM
          rw [← List.map_take, List.take_range, List.length_take]
          apply List.map_congr_left
          intro i hi
          have := List.mem_range.1 hi
          simp only [List.getD_eq_getElem?_getD]
          rw [List.getElem?_take, if_pos (by omega)]
        have h3 : idxM l = (idxM l).take (k + 1) ++ (idxM l).drop (k + 1) := (List.take_append_drop _ _).symm
        rw [h2, h1] at h3
        exact h3.trans (by rw [List.append_assoc]; rfl)
      rw [hsplit, List.find?_append]
      have hn : ((idxM (l.take k)).find? fun x => decide (s = x.1)) = none := by
        have := idxM_none (l := l.take k) (s := s) (fun hm => hne s hm rfl)
        unfold lkpS at this
        simpa using this
      rw [hn]
      simp
    rw [hf]
    rfl
  · rw [idxM_none h, idxL_miss (fun u hu (e : u = s) => h (by rw [← e]; exact hu))]
    rfl
set_option maxRecDepth 100000 in
set_option maxHeartbeats 8000000 in
theorem classes_any (x : PA) (p : PR) (y : TA) (t : BT) (At : Option Addr) (ct : Nat) (text : List Int) (w : World) (h : PrAt w w.heap.size x p) (hsp : p.spans.length ≤ 100000) (hY : TabAt w w.heap.size y t) (hsm : t.cls.length ≤ 1000 ∧ t.act.length ≤ 1000) (hT : Row w w.heap.size At (ints text)) (hll : text.length ≤ 100000) :
    Calls Try.prog 89 #[x.val p, y.val t, .slice At text.length ct] w (RetI w (clsV p t text)) := by
  have CV := Lib.hid (fun (u : World) (hu : Below w.heap.size w u) (v : Bool) (hv : v = true ↔ validT t) => valid_any y t u (hY.below hu).lt hsm v hv)
  have CP := Lib.hid (fun (u : World) (hu : Below w.heap.size w u) (v : Bool) (hv : v = true ↔ validP p) => validP_any x p u (h.below hu).lt hsp v hv)
  unfold PA.val at CP ⊢
  unfold TA.val at CV ⊢
  have HPR := Lib.hid h
  have HTB := Lib.hid hY
  have HT := Lib.hid hT
  have HSM := Lib.hid hsm
  obtain ⟨w1, hw1, HB1, HK1⟩ := boxV w 25 #[.slice x.n p.names.length x.cn, .slice x.s p.spans.length x.cs]
  obtain ⟨w2, hw2, HB2', HK2'⟩ := boxT w1 31 y t
  have HB2 := Lib.hid (HB1.out.trans (HB2'.out.mono HB1.out.size))
  have HK2 := Lib.hid (HK1.out.after HB2'.out)
  have hs1 : w1.heap.size = w.heap.size + 1 := by rw [hw1]; simp
  obtain ⟨g, hg⟩ : ∃ g, g = w1.heap.size := ⟨_, rfl⟩
  rw [← hg] at HK2'
  have hgw : g = w.heap.size + 1 := by omega
  have HGW := Lib.hid hgw
  obtain ⟨q0, q1, ql⟩ := blk2 HK2.out
  obtain ⟨r0, r1, r2, r3, r4, r5, rl⟩ := tab6 HK2'.out
  obtain ⟨n, hn⟩ : ∃ n, text.length = n := ⟨_, rfl⟩
  have HN := Lib.hid hn
  rw [hn] at hll ⊢
  clear h hY hT hn
  obtain ⟨i0, hi0, hz0, hz1, hz2⟩ := info_parts in_info31
  have hmm := fun n w => makeMap_hint (P := Try.prog) (t := 100) Try.underlying100 n w
  go_enter Try.func89, Try.ntmps89
  go_upto_region 1 with fail
  rw [← hw1, ← hw2, ← hgw]
  clear hw1 hw2 hs1 hg hgw
  by_cases hv : validT t
  case neg =>
    have HC : Hid (clsV p t text = []) := by
      show _ = _
      unfold clsV
      rw [if_neg hv]
    go_wp2_with fail
    refine (CV.out w2 HB2.out false ⟨fun h => (by cases h), fun h => absurd h hv⟩).mono ?_
    rintro e w3 ⟨rfl, hb3⟩
    have HB3 := Lib.hid (HB2.out.trans (hb3.mono HB2.out.size))
    clear hb3
    go_wp2
    go_ret
    rw [HC.out]
    exact ⟨none, 0, rfl, by simp, by simp [maxLen], Row.nil, HB3.out⟩
  case pos =>
    have HVT := Lib.hid hv
    have HC : Hid (clsV p t text = clsL p t text) := by
      show _ = _
      unfold clsV
      rw [if_pos hv]
    go_wp2_with fail
    refine (CV.out w2 HB2.out true ⟨fun _ => hv, fun _ => rfl⟩).mono ?_
    rintro e w3 ⟨rfl, hb3⟩
    have HB3 := Lib.hid (HB2.out.trans (hb3.mono HB2.out.size))
    have HK3 := Lib.hid (HK2.out.after hb3)
    have HK3' := Lib.hid (HK2'.out.after hb3)
    clear hb3 q0 q1 ql r0 r1 r2 r3 r4 r5 rl hv
    obtain ⟨q0, q1, ql⟩ := blk2 HK3.out
    obtain ⟨v, hvv⟩ : ∃ v : Bool, v = true ↔ validP p := by
      by_cases hp : validP p
      · exact ⟨true, fun _ => hp, fun _ => rfl⟩
      · exact ⟨false, fun h => (by cases h), fun h => absurd h hp⟩
    have HVV := Lib.hid hvv
    clear hvv
    go_wp2_with fail
    refine (CP.out w3 HB3.out v HVV.out).mono ?_
    rintro e w4 ⟨rfl, hb4⟩
    have HB4 := Lib.hid (HB3.out.trans (hb4.mono HB3.out.size))
    have HK4 := Lib.hid (HK3.out.after hb4)
    have HK4' := Lib.hid (HK3'.out.after hb4)
    clear hb4 q0 q1 ql
    obtain ⟨P, hPP⟩ : ∃ P, cntd p = P := ⟨_, rfl⟩
    have HPP := Lib.hid hPP
    clear hPP
    go_upto_if 21 with fail
    go_cut [] (fun wx => ∃ yy : PA, Hid (Blk wx w.heap.size 25 #[.slice yy.n P.names.length yy.cn, .slice yy.s P.spans.length yy.cs]) ∧ Hid (Blk wx g 31 (y.cs t)) ∧ Hid (PrAt wx wx.heap.size yy P) ∧ Hid (Below w.heap.size w wx))
    case first =>
      cases v with
      | true =>
        obtain rfl : p = P := (cntd_pos (HVV.out.1 rfl)).symm.trans HPP.out
        go_wp2
        go_meet
        case rel => exact ⟨x, HK4, HK4', (HPR.out.below HB4.out).lt, HB4⟩
      | false =>
        obtain rfl : other = P := (cntd_neg (fun h => by have := HVV.out.2 h; cases this)).symm.trans HPP.out
        obtain ⟨r0, r1, rl⟩ := blk2 HK4.out
        have f0 := HK4.out.free 0
        have f1 := HK4.out.free 1
        obtain ⟨w6, hw6, HK6, HKT6, HB6, HS6⟩ : ∃ u, u = ((w4.setCell ⟨w.heap.size, 0, none⟩ (.slice (some ⟨w4.heap.size, 0, none⟩) 1 1)).setCell ⟨w.heap.size, 1, none⟩ (.slice none 0 0)).alloc (.cells #[.string ⟨#[79, 116, 104, 101, 114]⟩] 9) ∧ Hid (Blk u w.heap.size 25 #[.slice (some ⟨w4.heap.size, 0, none⟩) 1 1, .slice none 0 0]) ∧ Hid (Blk u g 31 (y.cs t)) ∧ Hid (Below w.heap.size w u) ∧ Hid (StrsAt u u.heap.size (some ⟨w4.heap.size, 0, none⟩) other.names) := by
          refine ⟨_, rfl, ((HK4.out.set_ 0 _).set_ 1 _).alloc _, ((HK4'.out.far (p := ⟨w.heap.size, 0, none⟩) (by have := HGW.out; show g ≠ w.heap.size; omega) _).far (p := ⟨w.heap.size, 1, none⟩) (by have := HGW.out; show g ≠ w.heap.size; omega) _).alloc _, ?_, ?_⟩
          · have := (HB4.out.setCell (p := ⟨w.heap.size, 0, none⟩) (Nat.le_refl _) (.slice (some ⟨w4.heap.size, 0, none⟩) 1 1)).setCell (p := ⟨w.heap.size, 1, none⟩) (Nat.le_refl _) (.slice none 0 0)
            exact this.alloc this.size _
          · have := other_at (w := (w4.setCell ⟨w.heap.size, 0, none⟩ (.slice (some ⟨w4.heap.size, 0, none⟩) 1 1)).setCell ⟨w.heap.size, 1, none⟩ (.slice none 0 0)) (T := 9)
            refine Lib.hid ?_
            simpa using this
        go_wp2
        rw [← hw6]
        clear hw6
        go_meet
        case rel => exact ⟨⟨some ⟨w4.heap.size, 0, none⟩, none, 1, 0⟩, HK6, HKT6, ⟨⟨HS6.out, by simp [other], by simp [maxLen]⟩, Row.nil, by simp [other], by simp [maxLen]⟩, HB6⟩
    case rest =>
      obtain ⟨⟨yn, ys, ycn, ycs⟩, HKA, HKB, HPA, HBA⟩ := hcut
      simp only at HKA
      obtain ⟨wa, hwa⟩ : ∃ u, u = wc := ⟨_, rfl⟩
      subst hwa
      obtain ⟨hpn, hps⟩ := HPA.out
      simp only at hpn hps
      have HPN := Lib.hid hpn.1
      have HPS := Lib.hid hps.1
      have hcn := hpn.2
      have hcs := hps.2
      obtain ⟨np, hnp⟩ : ∃ n, P.names.length = n := ⟨_, rfl⟩
      obtain ⟨ms, hms⟩ : ∃ n, P.spans.length = n := ⟨_, rfl⟩
      obtain ⟨nc, hnc⟩ : ∃ n, t.cls.length = n := ⟨_, rfl⟩
      have HNP := Lib.hid hnp
      have HMS := Lib.hid hms
      have HNC := Lib.hid hnc
      rw [hnp] at HKA hcn
      rw [hms] at HKA hcs
      rw [hnc] at hsm
      unfold maxLen at hcn hcs
      have hP2 := cntd_valid p
      rw [HPP.out] at hP2
      have HSO : Hid (spansOk np P.spans) := by
        rcases hP2 with h | h
        · rw [← HNP.out]; exact h.2
        · rw [h]; exact ⟨fun s hs => by simp [other] at hs, fun i p s hp _ => by simp [other] at hp⟩
      have hnp2 : np ≤ 250 := by
        rcases hP2 with h | h
        · rw [← HNP.out]; exact h.1.1.2
        · rw [← HNP.out, h]; simp [other]
      have hms2 : ms ≤ 100000 := by
        rw [← HMS.out, ← HPP.out]
        exact cntd_len hsp
      have HGF : Hid (∀ c, 0 ≤ getS P.spans c ∧ getS P.spans c < (np : Int)) := fun c => by
        have := getV_fit p c
        rw [HPP.out, HNP.out] at this
        exact this
      have HNV : Hid (∀ c, nameV p c = P.names.getD (getS P.spans c).toNat []) := fun c => by
        unfold nameV
        rw [HPP.out]
      clear hP2 hpn hps hnp hms hnc
      have hbsa := HBA.out.size
      obtain ⟨q0, q1, ql⟩ := blk2 HKA.out
      obtain ⟨r0, r1, r2, r3, r4, r5, rl⟩ := tab6 HKB.out
      rw [HNC.out] at r0
      obtain ⟨wm, hwm, HBm, HMm⟩ : ∃ u, u = wa.alloc (.map #[] 0) ∧ Hid (Below wa.heap.size wa u) ∧ Hid (MapS u wa.heap.size (idxM (t.cls.take 0))) := ⟨_, rfl, (Below.refl _ _).alloc (Nat.le_refl _) _, MapS.new wa⟩
      obtain ⟨mb, hmb⟩ : ∃ mb, mb = wa.heap.size := ⟨_, rfl⟩
      rw [← hmb] at HMm
      have HMB := Lib.hid hmb
      have hmba : wa.heap.size ≤ mb := by omega
      go_upto_region 6 with fail
      rw [← hwm, ← hmb]
      clear hwm hmb q0 q1 ql r0 r1 r2 r3 r4 r5 rl
      have HKBm := Lib.hid (HKB.out.after HBm.out)
      obtain ⟨r0, r1, r2, r3, r4, r5, rl⟩ := tab6 HKBm.out
      rw [HNC.out] at r0
      have HST := Lib.hid HTB.out.1.1.1
      have HSD := Lib.hid HVT.out.1.2.2
      clear CV CP HPR
      obtain ⟨yc, hyc⟩ : ∃ yc, y.c = yc := ⟨_, rfl⟩
      rw [hyc] at r0 HST ⊢
      clear hyc
      go_wp2
      go_loopw [31] (fun i wr => ∃ k : Nat, k ≤ nc ∧ i = .int .i64 (k : Int) ∧ Hid (MapS wr mb (idxM (t.cls.take k))) ∧ Hid (Below wa.heap.size wa wr)) (fun i _ => nc - (intOf i).toNat)
      case atStart => exact ⟨0, by omega, rfl, HMm, HBm⟩
      case round =>
        obtain ⟨k, hk, rfl, HM, HB⟩ := hrel
        have hbr := HB.out.size
        have HBw := Lib.hid (HBA.out.trans (HB.out.mono hbsa))
        by_cases hkn : k < nc
        · obtain ⟨b, o, s, rfl, hb, hx, cc⟩ := (HST.out.below HBw.out).at_str (k := k) (by rw [HNC.out]; exact hkn)
          have hbl : b < wr.heap.size := by omega
          have HLK : Hid (lkpS (idxM (t.cls.take k)) s = none) := idxM_none (fun hm => by
            obtain ⟨i, hi, e2⟩ := List.getElem_of_mem hm
            rw [List.length_take] at hi
            have hi2 : t.cls[i]? = some s := by
              have := List.getElem?_eq_getElem (l := t.cls.take k) (i := i) (by rw [List.length_take]; exact hi)
              rw [List.getElem?_take, if_pos (by omega), e2] at this
              exact this
            exact HSD.out i k s s (by omega) hi2 hx.out rfl)
          have HTS := Lib.hid (idxM_snoc hx.out)
          go_wp2_with (first
            | (at_mapUpdate
               refine wpList_putS _ rfl _ _ _ 100 rfl 9 3 Try.underlying9 Try.underlying100 mb (idxM (t.cls.take k)) s (.int .i64 (k : Int)) rfl rfl rfl HM.out HLK.out ?_
               intro w7 m7 g7
               rw [← HTS.out] at m7
               have M7 := Lib.hid m7
               have G7 := Lib.hid g7
               clear m7 g7))
          have HB7 : Hid (Below wa.heap.size wa w7) := HB.out.grown G7.out hbr (fun x hx => by injection hx with hx; omega)
          go_roundw
          case rel => exact ⟨k + 1, by omega, by go_num, M7, HB7⟩
          case measure => simp [intOf]; omega
        · obtain rfl : nc = k := by omega
          rw [List.take_of_length_le (by rw [HNC.out]; exact Nat.le_refl _)] at HM
          have HKAr := Lib.hid (HKA.out.after HB.out)
          obtain ⟨q0, q1, ql⟩ := blk2 HKAr.out
          go_upto_region 12 with (first
            | (at_make
               refine wpList_make_zero _ rfl _ _ 26 rfl 3 i0 _ Try.underlying26 hi0 hz0 hz1 rfl _ _ _ _ np rfl rfl (by omega) (by omega) (by rw [hz2]; omega) (by simp only [maxLen]; omega) ?_
               intro w8 hk8 hb8))
          rw [rep_ints] at hk8
          have hmbl := HM.out.lt
          have HM8 := Lib.hid (HM.out.below hb8.out hmbl)
          have HB8 : Hid (Below wa.heap.size wa w8) := HB.out.trans (hb8.out.mono hbr)
          have HKA8 := Lib.hid (HKA.out.after HB8.out)
          obtain ⟨gc, hgc⟩ : ∃ gc, gc = wr.heap.size := ⟨_, rfl⟩
          rw [← hgc] at hk8 ⊢
          have hgc1 : wa.heap.size ≤ gc := by omega
          have hgc2 : mb < gc := by omega
          clear hgc hb8 q0 q1 ql
          obtain ⟨q0, q1, ql⟩ := blk2 HKA8.out
          have HPNA := Lib.hid HPN.out.1
          go_wp2
          go_loopw [47] (fun i wr => ∃ (k : Nat) (arr : List Int), k ≤ np ∧ i = .int .i64 (k : Int) ∧ Hid (arr.length = np) ∧ Hid (∀ j s, j < k → P.names[j]? = some s → arr[j]? = some (idxL t.cls s)) ∧ Hid (Blk wr gc 3 (ints arr).toArray) ∧ Hid (MapS wr mb (idxM t.cls)) ∧ Hid (Below wa.heap.size wa wr)) (fun i _ => np - (intOf i).toNat)
          case atStart => exact ⟨0, List.replicate np 0, by omega, rfl, List.length_replicate, fun j s h => by omega, hk8, HM8, HB8⟩
          case round =>
            obtain ⟨k, arr, hk, rfl, HAL, HAR, HBL, HM, HB⟩ := hrel
            have hbr := HB.out.size
            have HBw := Lib.hid (HBA.out.trans (HB.out.mono hbsa))
            have hgl := HBL.out.lt
            by_cases hkn : k < np
            · obtain ⟨b, o, s, rfl, hb, hx, cc⟩ := (HPNA.out.below HB.out).at_str (k := k) (by rw [HNP.out]; exact hkn)
              have hbl : b < wr.heap.size := by omega
              have hlook := look_s (w := wr) Try.underlying9 Try.underlying100 (int_zero wr) HM.out s
              rw [idxM_get _ _ HSD.out] at hlook
              obtain ⟨d, hd⟩ : ∃ d, idxL t.cls s = d := ⟨_, rfl⟩
              rw [hd] at hlook
              have HD := Lib.hid hd
              obtain ⟨od, cck⟩ : ∃ od, wr.cell? ⟨gc, k, none⟩ = some (.int .i64 od) := by
                rw [HBL.out.cell k]
                refine ⟨arr[k]'(by rw [HAL.out]; omega), ?_⟩
                simp [ints]
              have hfr := HBL.out.free k
              obtain ⟨w5, hw5, HW5, HM5, HB5⟩ : ∃ u, u = wr.setCell ⟨gc, k, none⟩ (.int .i64 d) ∧ Hid (Blk u gc 3 (ints (arr.set k d)).toArray) ∧ Hid (MapS u mb (idxM t.cls)) ∧ Hid (Below wa.heap.size wa u) := by
                refine ⟨_, rfl, ?_, HM.out.keep (Below.heap_setCell wr ⟨gc, k, none⟩ _ mb (by show mb ≠ gc; omega)), HB.out.setCell (p := ⟨gc, k, none⟩) hgc1 _⟩
                have := HBL.out.set_ k (.int .i64 d)
                rw [ints_set] at this
                exact this
              have HAR' : Hid (∀ j s, j < k + 1 → P.names[j]? = some s → (arr.set k d)[j]? = some (idxL t.cls s)) := fun j s' hj hs' => by
                by_cases hjk : j = k
                · subst hjk
                  rw [hx.out] at hs'
                  injection hs' with hs'
                  rw [List.getElem?_set_self (by rw [HAL.out]; omega), ← hs', HD.out]
                · rw [List.getElem?_set_ne (by omega)]
                  exact HAR.out j s' (by omega) hs'
              clear hd
              go_upto_region 16 with fail
              rw [← hw5]
              clear hw5
              go_wp2
              go_roundw
              case rel => exact ⟨k + 1, arr.set k d, by omega, by go_num, by show _ = _; rw [List.length_set]; exact HAL.out, HAR', HW5, HM5, HB5⟩
              case measure => simp [intOf]; omega
            · obtain rfl : np = k := by omega
              go_upto_region 18 with (first
                | (at_make
                   refine wpList_make_zero _ rfl _ _ 26 rfl 3 i0 _ Try.underlying26 hi0 hz0 hz1 rfl _ _ _ _ n rfl rfl (by omega) (by omega) (by rw [hz2]; omega) (by simp only [maxLen]; omega) ?_
                   intro w9 hk9 hb9))
              rw [rep_ints] at hk9
              have HC9 := Lib.hid (HBL.out.after hb9.out)
              have HB9 : Hid (Below wa.heap.size wa w9) := HB.out.trans (hb9.out.mono hbr)
              obtain ⟨gr, hgr⟩ : ∃ gc, gc = wr.heap.size := ⟨_, rfl⟩
              rw [← hgr] at hk9 ⊢
              have hgr1 : wa.heap.size ≤ gr := by omega
              have hgr2 : gc < gr := by omega
              clear hgr hb9
              have CVA := fun (u : World) (hu : Below wa.heap.size wa u) (c : Int) => value_any ys ycs np P.spans c u (HPS.out.below hu).lt (by rw [HMS.out]; exact hms2) HSO.out
              rw [HMS.out] at CVA
              replace CVA := Lib.hid CVA
              have HLEN : Hid ((clsL p t text).length = n) := by
                show _ = _
                unfold clsL
                rw [List.length_map, HN.out]
              go_wp2
              go_loopw [64] (fun i wr => ∃ (k : Nat) (ar : List Int), k ≤ n ∧ i = .int .i64 (k : Int) ∧ Hid (ar.length = n) ∧ Hid (∀ j, j < k → ar[j]? = (clsL p t text)[j]?) ∧ Hid (Blk wr gr 3 (ints ar).toArray) ∧ Hid (Blk wr gc 3 (ints arr).toArray) ∧ Hid (Below wa.heap.size wa wr)) (fun i _ => n - (intOf i).toNat)
              case atStart => exact ⟨0, List.replicate n 0, by omega, rfl, List.length_replicate, fun j h => by omega, hk9, HC9, HB9⟩
              case round =>
                obtain ⟨k, ar, hk, rfl, HAL3, HAR3, HBL3, HBC3, HB3⟩ := hrel
                have hbr3 := HB3.out.size
                have HBw3 := Lib.hid (HBA.out.trans (HB3.out.mono hbsa))
                have HKA3 := Lib.hid (HKA.out.after HB3.out)
                obtain ⟨q0, q1, ql⟩ := blk2 HKA3.out
                by_cases hkn : k < n
                · obtain ⟨b, o, yy, rfl, hb, hx, cc⟩ := (HT.out.below HBw3.out).at_int (k := k) (by rw [HN.out]; exact hkn)
                  have hbl : b < wr.heap.size := by omega
                  obtain ⟨gv, hgv⟩ : ∃ gv, getS P.spans yy = gv := ⟨_, rfl⟩
                  have hgf := HGF.out yy
                  have CV1 := fun (u : World) (hu : Below wa.heap.size wa u) => CVA.out u hu yy
                  rw [hgv] at hgf CV1
                  obtain ⟨gn, rfl⟩ : ∃ gn : Nat, gv = (gn : Int) := ⟨gv.toNat, by omega⟩
                  replace CV1 := Lib.hid CV1
                  obtain ⟨nm, hnm⟩ : ∃ nm, P.names[gn]? = some nm := ⟨_, List.getElem?_eq_getElem (by rw [HNP.out]; omega)⟩
                  obtain ⟨d, hd⟩ : ∃ d, idxL t.cls nm = d := ⟨_, rfl⟩
                  have HCL : Hid ((clsL p t text)[k]? = some d) := by
                    show _ = _
                    unfold clsL
                    rw [List.getElem?_map, hx.out]
                    simp only [Option.map_some]
                    rw [HNV.out, hgv, Int.toNat_natCast, List.getD_eq_getElem?_getD, hnm]
                    simp only [Option.getD_some]
                    rw [hd]
                  have hard := HAR.out gn nm (by omega) hnm
                  rw [hd] at hard
                  have HARD := Lib.hid hard
                  have hgn : gn < np := by omega
                  clear hgv hnm hd hgf hard
                  go_wp2_with fail
                  refine (CV1.out wr HB3.out).mono ?_
                  rintro e w5 ⟨rfl, hb5⟩
                  have HB5 := Lib.hid (HB3.out.trans (hb5.mono hbr3))
                  have HBL5 := Lib.hid (HBL3.out.after hb5)
                  have HBC5 := Lib.hid (HBC3.out.after hb5)
                  clear hb5 q0 q1 ql
                  have ccg : w5.cell? ⟨gc, gn, none⟩ = some (.int .i64 d) := by
                    rw [HBC5.out.cell gn]
                    simp [ints, HARD.out]
                  obtain ⟨od, cck⟩ : ∃ od, w5.cell? ⟨gr, k, none⟩ = some (.int .i64 od) := by
                    rw [HBL5.out.cell k]
                    refine ⟨ar[k]'(by rw [HAL3.out]; omega), ?_⟩
                    simp [ints]
                  have hfr := HBL5.out.free k
                  have hgl5 := HBL5.out.lt
                  have hgc5 := HBC5.out.lt
                  obtain ⟨w6, hw6, HW6, HC6, HB6⟩ : ∃ u, u = w5.setCell ⟨gr, k, none⟩ (.int .i64 d) ∧ Hid (Blk u gr 3 (ints (ar.set k d)).toArray) ∧ Hid (Blk u gc 3 (ints arr).toArray) ∧ Hid (Below wa.heap.size wa u) := by
                    refine ⟨_, rfl, ?_, HBC5.out.far (p := ⟨gr, k, none⟩) (by show gc ≠ gr; omega) _, HB5.out.setCell (p := ⟨gr, k, none⟩) hgr1 _⟩
                    have := HBL5.out.set_ k (.int .i64 d)
                    rw [ints_set] at this
                    exact this
                  have HAR3' : Hid (∀ j, j < k + 1 → (ar.set k d)[j]? = (clsL p t text)[j]?) := fun j hj => by
                    by_cases hjk : j = k
                    · subst hjk
                      rw [List.getElem?_set_self (by rw [HAL3.out]; omega), HCL.out]
                    · rw [List.getElem?_set_ne (by omega)]
                      exact HAR3.out j (by omega)
                  go_upto_region 22 with fail
                  rw [← hw6]
                  clear hw6
                  go_wp2
                  go_roundw
                  case rel => exact ⟨k + 1, ar.set k d, by omega, by go_num, by show _ = _; rw [List.length_set]; exact HAL3.out, HAR3', HW6, HC6, HB6⟩
                  case measure => simp [intOf]; omega
                · have HE : Hid (ar = clsL p t text) := list_ext (by rw [HAL3.out, HLEN.out]) (fun j hj => HAR3.out j (by rw [HLEN.out] at hj; omega))
                  go_wp2
                  go_ret
                  rw [HC.out]
                  have HRW : Row wr wr.heap.size (some ⟨gr, 0, none⟩) (ints (clsL p t text)) := HBL3.out.row (by rw [HE.out])
                  exact ⟨some ⟨gr, 0, none⟩, n, by rw [HLEN.out]; rfl, by rw [HLEN.out]; exact Nat.le_refl _, by simp only [maxLen]; omega, HRW, HBw3.out⟩
end Go.Proofs.Ytkpblieanejmeaa
