/-
  ref29.after: the rests of a pattern join a set.
-/
import Derived.Test.YtkoojoogddndnaaPd0
namespace Go.Proofs.Ytkoojoogddndnaa
open Go.RowKit Go.UtYtkoojoogddndnaa
theorem pdAlt_mem : ∀ {s : List Pat} {q : Pat}, q ∈ s → ∀ d ∈ pdL q, d ∈ pdAlt s
  | [], q, h => by cases h
  | p :: s, q, h => by
    intro d hd
    rw [pdAlt]
    rcases List.mem_cons.1 h with h | h
    · subst h
      exact List.mem_append_left _ hd
    · exact List.mem_append_right _ (pdAlt_mem h d hd)
theorem nodes_mem : ∀ {s : List Pat} {q : Pat}, q ∈ s → nodes q ≤ nodesL s
  | [], q, h => by cases h
  | p :: s, q, h => by
    rw [nodesL]
    rcases List.mem_cons.1 h with h | h
    · subst h
      omega
    · have := nodes_mem h
      omega
theorem kept_set {E : Nat → Prop} {w u : World} {B : Nat} {A A' : Option Addr} {n c n' c' : Nat} (hB : B ≤ w.heap.size) (hg : w.grownBy u (Value.slice A n c).ownBlock) (hA : ∀ b, OwnE A b → B ≤ b) (hn : (Value.slice A' n' c').ownBlock = (Value.slice A n c).ownBlock ∨ (Value.slice A' n' c').ownBlock = some w.heap.size) :
    Kept B (OwnX E A) w u ∧ Grew w (OwnX E A) (OwnX E A') := by
  have e1 : (Value.slice A n c).ownBlock = (Value.slice A 0 0).ownBlock := own_size A c
  have e2 : (Value.slice A' n' c').ownBlock = (Value.slice A' 0 0).ownBlock := own_size A' c'
  rw [e1] at hg hn
  rw [e2] at hn
  refine ⟨⟨(Below.refl _ _).grown hg hB (fun g hg' => hA g hg'), fun b hb hE => hg.block b hb (fun e => hE (.inr e.symm))⟩, fun b hb => ?_⟩
  rcases hb with hb | hb
  · exact .inl (.inl hb)
  unfold OwnE at hb
  rcases hn with h | h
  · left
    rw [h] at hb
    exact .inr hb
  · right
    rw [h] at hb
    injection hb with hb
    omega
end Go.Proofs.Ytkoojoogddndnaa
namespace Go.UtYtkoojoogddndnaa
open Go.RowKit Go.Proofs.Ytkoojoogddndnaa
theorem RsAt.kept {w w' : World} {B : Nat} {E E' : Nat → Prop} {vs : List Value} {S : List (List Pat)} (h : RsAt (era w E) w.heap.size vs S) (hk : Kept B E w w') (hg : Grew w E E') : RsAt (era w' E') w'.heap.size vs S :=
  (h.era_keep (fun b hb hE => hk.2 b hb hE) (fun b hb hE => (hg b hE).resolve_right (by omega))).more hk.1.size
theorem PvAt.kept {w w' : World} {B : Nat} {E E' : Nat → Prop} {p : Pat} {A1 A2 : Option Addr} {c1 c2 : Nat} (h : PvAt (era w E) w.heap.size p A1 c1 A2 c2) (hk : Kept B E w w') (hg : Grew w E E') : PvAt (era w' E') w'.heap.size p A1 c1 A2 c2 :=
  ⟨h.1, h.2.1.kept hk hg, h.2.2.kept hk hg⟩
theorem RetSt.from {E : Nat → Prop} {U : List (List Pat)} {B : Nat} {A0 : Option Addr} {w u w' : World} {e : Ending} (hs : w.heap.size ≤ u.heap.size) (hk : Kept B (OwnX E A0) w u) (h : RetSt E U B A0 u e w') : RetSt E U B A0 w e w' := by
  obtain ⟨A, c, S, h1, h2, h3, h4, h5⟩ := h
  exact ⟨A, c, S, h1, h2, h3, hk.trans (Grew.refl _ _) h4, Grew.trans hs (Grew.refl _ _) h5⟩
end Go.UtYtkoojoogddndnaa
namespace Go.Proofs.Ytkoojoogddndnaa
open Go.RowKit Go.UtYtkoojoogddndnaa
theorem nodup_snoc {α : Type} {l : List α} {x : α} (h : l.Nodup) (hx : x ∉ l) : (l ++ [x]).Nodup := by
  rw [List.nodup_append]
  refine ⟨h, by simp, fun a ha b hb => ?_⟩
  simp at hb
  subst hb
  intro e
  subst e
  exact hx ha
attribute [local go_sem high] cut_l
set_option maxRecDepth 100000 in
set_option maxHeartbeats 4000000 in
theorem after_one (cl : List Int) (s : List Pat) : AfterOk (.mk 1 cl s) := by
  intro E U S A c n A1 c1 A2 c2 x At ct nt tail B w hS hSn hSU hU hB hP hT htn hbd hpd
  obtain ⟨i0, hi0, hz0, hz1, hz2⟩ := info_parts pts_info
  have htU : tail ∈ U := by simpa [pdL] using hpd
  change Calls Try.prog 102 #[.slice A n c, .agg #[.int .i64 1, .slice A1 cl.length c1, .slice A2 s.length c2], .int .i64 x, .slice At nt ct] w _
  obtain ⟨hp1, hp2, hp3⟩ := hP
  change cl.length ≤ c1 ∧ c1 ≤ maxLen at hp1
  change Row (era w (OwnX E A)) w.heap.size A1 (ints cl) at hp2
  obtain ⟨nc, hnc⟩ : ∃ z, cl.length = z := ⟨_, rfl⟩
  obtain ⟨ns, hns⟩ : ∃ z, s.length = z := ⟨_, rfl⟩
  rw [hns, hnc]
  rw [hnc] at hp1
  obtain ⟨w1, hw1, HB1, HK1⟩ := boxV w 77 #[.int .i64 1, .slice A1 nc c1, .slice A2 ns c2]
  have hw1s : w.heap.size < w1.heap.size := HK1.out.lt
  have HE1 : Hid (Kept B (OwnX E A) w w1) := Kept.below hB HB1.out
  have hnE : Hid (¬ OwnX E A w.heap.size) := Lib.hid (fun h => by have := own_lt hS _ h; omega)
  have HS1 := Lib.hid (hS.after HB1.out)
  have HP1 := Lib.hid (hp2.kept HE1.out (Grew.refl _ _))
  have HT1 := Lib.hid (hT.kept HE1.out (Grew.refl _ _))
  have HSU1 := Lib.hid hSU
  have HSN := Lib.hid hSn
  have HTN := Lib.hid htn
  have HTU := Lib.hid htU
  have HNC := Lib.hid hnc
  have HK0 : Hid (Kept B (OwnX E A) w1 w1) := Kept.refl _ _
  have HG0 : Hid (Grew w1 (OwnX E A) (OwnX E A)) := Grew.refl _ _
  have hp11 := hp1.1
  have hp12 := hp1.2
  unfold maxLen at hp12
  have htl := HT1.out.1.1
  rw [htn] at htl
  clear hS hp2 hp3 hT hSU hSn htn htU hpd hnc hns hp1
  go_enter Try.func102, Try.ntmps102
  go_upto_region 1 with fail
  rw [← hw1]
  clear hw1
  have p0 := HK1.out.cell 0
  have pl := HK1.out.lt
  go_wp2
  clear p0 pl
  go_loopw [0, 9] (fun sv iv wr => ∃ (j n' c' : Nat) (A' : Option Addr) (S' : List (List Pat)), j ≤ nc ∧ iv = .int .i64 (j : Int) ∧ sv = .slice A' n' c' ∧ Hid (S'.length = n') ∧ Hid (SetAt E wr B A' c' S') ∧ Hid (S'.Nodup ∧ ∀ r ∈ S', r ∈ U) ∧ Hid (Kept B (OwnX E A) w1 wr) ∧ Hid (Grew w1 (OwnX E A) (OwnX E A'))) (fun _ i _ => nc - (intOf i).toNat)
  case atStart => exact ⟨0, n, c, A, S, by omega, rfl, rfl, HSN, HS1, HSU1, HK0, HG0⟩
  case round =>
    obtain ⟨j, n', c', A', S', hj, rfl, rfl, HSN', HS, HSU', HK, HG⟩ := hrel
    have hbs := HK.out.1.size
    have HBK : Hid (Blk wr w.heap.size 77 #[.int .i64 1, .slice A1 nc c1, .slice A2 ns c2]) := Lib.hid ((HK.out.2 _ hw1s hnE.out).trans HK1.out)
    have p1 := HBK.out.cell 1
    have pl := HBK.out.lt
    have HKw : Hid (Kept B (OwnX E A) w wr) := Lib.hid (HE1.out.trans (Grew.refl _ _) HK.out)
    have HGw : Hid (Grew w (OwnX E A) (OwnX E A')) := Lib.hid (Grew.trans (by omega) (Grew.refl _ _) HG.out)
    by_cases hjn : j < nc
    · obtain ⟨b, o, y, hA, hb, hy, cc⟩ := (HP1.out.kept HK.out HG.out).of_era.at_int (k := j) (by rw [HNC.out]; exact hjn)
      subst hA
      by_cases hyx : y = x
      · subst hyx
        obtain ⟨vs, HO, HR⟩ : ∃ vs, Hid (wr.ownsRow B 75 1 (.slice A' n' c') n' vs) ∧ Hid (RsAt (era wr (OwnX E A')) wr.heap.size vs S') := by
          obtain ⟨_, vs, h1, h2⟩ := HS.out
          rw [HSN'.out] at h1
          exact ⟨vs, h1, h2⟩
        have hn1 : n' ≤ 1000 := by
          have := nodup_len HSU'.out.1 HSU'.out.2
          rw [HSN'.out] at this
          omega
        have hrow := ow_row HO.out
        have HTr := Lib.hid (HT1.out.kept HK.out HG.out)
        have CH := Lib.hid (has_any S' tail vs A' At c' ct n' nt wr hrow.1 HR.out.of_era HTr.out.of_era HSN'.out HTN.out (by omega))
        have hcl := hrow.2.1
        have hbB : B ≤ wr.heap.size := by omega
        clear hrow
        go_wp2_with fail
        refine CH.out.mono ?_
        rintro e w2 ⟨v, rfl, hv, hb2⟩
        have HB2 := Lib.hid hb2
        have HV2 := Lib.hid hv
        clear hb2 hv
        have HK2 : Hid (Kept B (OwnX E A) w1 w2) := Lib.hid (HK.out.trans HG.out (Kept.below hbB HB2.out))
        cases v
        · have HNI : Hid (tail ∉ S') := Lib.hid (fun h => by have := HV2.out.2 h; cases this)
          obtain ⟨w3, hw3, HB3, HK3⟩ := boxV w2 75 #[.slice At nt ct]
          have HBr : Hid (Below wr.heap.size wr w3) := Lib.hid (HB2.out.trans (HB3.out.mono HB2.out.size))
          have HO3 := Lib.hid (ow_below HO.out HBr.out)
          have HL3 : Hid (Row w3 (w2.heap.size + 1) (some ⟨w2.heap.size, 0, none⟩) [.slice At nt ct]) := Lib.hid (by rw [hw3]; exact row_lit w2 _ _)
          have hB3 : B ≤ w3.heap.size := Nat.le_trans hbB HBr.out.size
          go_wp2_with (first
            | (at_builtin
               rw [← hw3]
               refine wpList_append_row _ rfl (.tmp 35) (.tmp 37) _ rfl B 75 i0 _ 1 24 Try.underlying98 hi0 hz0 hz1 hz2 rfl (by omega) (.slice A' n' c') n' vs rfl HO3.out _ _ 1 1 [.slice At nt ct] rfl rfl HL3.out (by intro u hu; simp at hu; subst hu; rfl) (by simp only [maxLen]; omega) (by omega) hB3 ?_
               intro q4 w4 o4 g4 t4
               obtain ⟨A4, c4, rfl⟩ := ow_slice (m := n' + 1) o4 rfl
               have HO4 := Lib.hid o4
               have HG4 := Lib.hid g4
               have HT4 := Lib.hid t4
               clear o4 g4 t4 hw3))
          obtain ⟨hk4, hg4⟩ := kept_set hB3 HG4.out (fun b hb => (own_ge HS.out b hb).2) HT4.out
          have hkr : Kept B (OwnX E A') wr w4 := (Kept.below hbB HBr.out).trans (Grew.refl _ _) hk4
          have hgr : Grew wr (OwnX E A') (OwnX E A4) := Grew.trans HBr.out.size (Grew.refl _ _) hg4
          have HK5 : Hid (Kept B (OwnX E A) w1 w4) := Lib.hid (HK.out.trans HG.out hkr)
          have HG5 : Hid (Grew w1 (OwnX E A) (OwnX E A4)) := Lib.hid (Grew.trans hbs HG.out hgr)
          have HS5 : Hid (SetAt E w4 B A4 c4 (S' ++ [tail])) := Lib.hid (by
            have h1 := (HR.out.kept hkr hgr).snoc (HTr.out.kept hkr hgr)
            rw [HTN.out] at h1
            refine ⟨⟨HS.out.1.1, Nat.le_trans (by omega) HK5.out.1.size⟩, _, ?_, h1⟩
            rw [List.length_append, HSN'.out]
            exact HO4.out)
          have HU5 : Hid ((S' ++ [tail]).Nodup ∧ ∀ r ∈ S' ++ [tail], r ∈ U) := Lib.hid ⟨nodup_snoc HSU'.out.1 HNI.out, fun r hr => by
            rcases List.mem_append.1 hr with hr | hr
            · exact HSU'.out.2 r hr
            · simp at hr
              subst hr
              exact HTU.out⟩
          have HN5 : Hid ((S' ++ [tail]).length = n' + 1) := Lib.hid (by rw [List.length_append, HSN'.out]; rfl)
          clear hk4 hg4 hkr hgr
          go_roundw
          case rel => exact ⟨j + 1, n' + 1, c4, A4, S' ++ [tail], by omega, by go_num, rfl, HN5, HS5, HU5, HK5, HG5⟩
          case measure => simp [intOf] <;> omega
        · have HS2 := Lib.hid (HS.out.after HB2.out)
          go_wp2
          go_roundw
          case rel => exact ⟨j + 1, n', c', A', S', by omega, by go_num, rfl, HSN', HS2, HSU', HK2, HG⟩
          case measure => simp [intOf] <;> omega
      · have d1 : decide (y = x) = false := decide_eq_false hyx
        go_wp2
        go_roundw
        case rel => exact ⟨j + 1, n', c', A', S', by omega, by go_num, rfl, HSN', HS, HSU', HK, HG⟩
        case measure => simp [intOf] <;> omega
    · go_wp2
      go_ret
      refine ⟨A', c', S', ?_, HS.out, HSU'.out, HKw.out, HGw.out⟩
      rw [HSN'.out]
      rfl
set_option maxRecDepth 100000 in
set_option maxHeartbeats 4000000 in
theorem after_two (cl : List Int) (s : List Pat) (IH : ∀ q ∈ s, AfterOk q) : AfterOk (.mk 2 cl s) := by
  intro E U S A c n A1 c1 A2 c2 x At ct nt tail B w hS hSn hSU hU hB hP hT htn hbd hpd
  have hnd : nodes (.mk 2 cl s) = 1 + nodesL s := by rw [nodes]
  rw [hnd] at hbd
  change Calls Try.prog 102 #[.slice A n c, .agg #[.int .i64 2, .slice A1 cl.length c1, .slice A2 s.length c2], .int .i64 x, .slice At nt ct] w _
  obtain ⟨hp1, hp2, hp3⟩ := hP
  change PsAt (era w (OwnX E A)) w.heap.size A2 c2 s at hp3
  obtain ⟨nc, hnc⟩ : ∃ z, cl.length = z := ⟨_, rfl⟩
  obtain ⟨ns, hns⟩ : ∃ z, s.length = z := ⟨_, rfl⟩
  rw [hns, hnc]
  obtain ⟨w1, hw1, HB1, HK1⟩ := boxV w 77 #[.int .i64 2, .slice A1 nc c1, .slice A2 ns c2]
  have hw1s : w.heap.size < w1.heap.size := HK1.out.lt
  have HE1 : Hid (Kept B (OwnX E A) w w1) := Kept.below hB HB1.out
  have hnE : Hid (¬ OwnX E A w.heap.size) := Lib.hid (fun h => by have := own_lt hS _ h; omega)
  have HS1 := Lib.hid (hS.after HB1.out)
  have HP1 := Lib.hid (hp3.kept HE1.out (Grew.refl _ _))
  have HT1 := Lib.hid (hT.kept HE1.out (Grew.refl _ _))
  have HSU1 := Lib.hid hSU
  have HSN := Lib.hid hSn
  have HTN := Lib.hid htn
  have HNS := Lib.hid hns
  have HIH := Lib.hid IH
  have HK0 : Hid (Kept B (OwnX E A) w1 w1) := Kept.refl _ _
  have HG0 : Hid (Grew w1 (OwnX E A) (OwnX E A)) := Grew.refl _ _
  have htl := HT1.out.1.1
  rw [htn] at htl
  have hsl := HP1.out.1
  rw [hns] at hsl
  have hsl1 := hsl.1
  have hsl2 := hsl.2
  unfold maxLen at hsl2
  have CA := Lib.hid (afterAll_of s IH E U S A c n A2 c2 ns x At ct nt tail B w1 HS1.out hSn hSU hU (by omega) HP1.out hns HT1.out htn (by omega) (fun d hd => hpd d (by simpa [pdL] using hd)))
  clear hS hp1 hp2 hp3 hT hSU hSn htn hpd hnc hns hsl IH
  go_enter Try.func102, Try.ntmps102
  go_upto_region 1 with fail
  rw [← hw1]
  clear hw1
  have p0 := HK1.out.cell 0
  have p2 := HK1.out.cell 2
  have pl := HK1.out.lt
  go_wp2_with fail
  refine CA.out.mono ?_
  rintro e w2 hr
  have HR := Lib.hid (RetSt.from (by omega) HE1.out hr)
  clear hr
  obtain ⟨A', c', S', rfl, h2⟩ := HR.out
  have H2 := Lib.hid h2
  clear h2 HR
  obtain ⟨n', hn'⟩ : ∃ z, S'.length = z := ⟨_, rfl⟩
  rw [hn']
  have HN' := Lib.hid hn'
  clear hn'
  go_wp2
  go_ret
  exact ⟨A', c', S', by rw [HN'.out]; rfl, H2.out⟩
set_option maxRecDepth 100000 in
set_option maxHeartbeats 4000000 in
theorem after_three (cl : List Int) (s : List Pat) (IH : ∀ q ∈ s, AfterOk q) : AfterOk (.mk 3 cl s) := by
  intro E U S A c n A1 c1 A2 c2 x At ct nt tail B w hS hSn hSU hU hB hP hT htn hbd hpd
  have hnd : nodes (.mk 3 cl s) = 1 + nodesL s := by rw [nodes]
  rw [hnd] at hbd
  change Calls Try.prog 102 #[.slice A n c, .agg #[.int .i64 3, .slice A1 cl.length c1, .slice A2 s.length c2], .int .i64 x, .slice At nt ct] w _
  obtain ⟨hp1, hp2, hp3⟩ := hP
  change PsAt (era w (OwnX E A)) w.heap.size A2 c2 s at hp3
  obtain ⟨nc, hnc⟩ : ∃ z, cl.length = z := ⟨_, rfl⟩
  obtain ⟨ns, hns⟩ : ∃ z, s.length = z := ⟨_, rfl⟩
  rw [hns, hnc]
  obtain ⟨w1, hw1, HB1, HK1⟩ := boxV w 77 #[.int .i64 3, .slice A1 nc c1, .slice A2 ns c2]
  have hw1s : w.heap.size < w1.heap.size := HK1.out.lt
  have HE1 : Hid (Kept B (OwnX E A) w w1) := Kept.below hB HB1.out
  have hnE : Hid (¬ OwnX E A w.heap.size) := Lib.hid (fun h => by have := own_lt hS _ h; omega)
  have HS1 := Lib.hid (hS.after HB1.out)
  have HP1 := Lib.hid (hp3.kept HE1.out (Grew.refl _ _))
  have HT1 := Lib.hid (hT.kept HE1.out (Grew.refl _ _))
  have HSU1 := Lib.hid hSU
  have HSN := Lib.hid hSn
  have HTN := Lib.hid htn
  have HNS := Lib.hid hns
  have HIH := Lib.hid IH
  have HK0 : Hid (Kept B (OwnX E A) w1 w1) := Kept.refl _ _
  have HG0 : Hid (Grew w1 (OwnX E A) (OwnX E A)) := Grew.refl _ _
  have htl := HT1.out.1.1
  rw [htn] at htl
  have hsl := HP1.out.1
  rw [hns] at hsl
  have hsl1 := hsl.1
  have hsl2 := hsl.2
  unfold maxLen at hsl2
  have HPD : Hid (∀ d ∈ pdAlt s, d ++ tail ∈ U) := Lib.hid (fun d hd => hpd d (by simpa [pdL] using hd))
  clear hS hp1 hp2 hp3 hT hSU hSn htn hpd hnc hns hsl IH
  go_enter Try.func102, Try.ntmps102
  go_upto_region 1 with fail
  rw [← hw1]
  clear hw1
  have p0 := HK1.out.cell 0
  have pl := HK1.out.lt
  go_wp2
  clear p0 pl
  go_loopw [0, 10] (fun sv iv wr => ∃ (j n' c' : Nat) (A' : Option Addr) (S' : List (List Pat)), j ≤ ns ∧ iv = .int .i64 (j : Int) ∧ sv = .slice A' n' c' ∧ Hid (S'.length = n') ∧ Hid (SetAt E wr B A' c' S') ∧ Hid (S'.Nodup ∧ ∀ r ∈ S', r ∈ U) ∧ Hid (Kept B (OwnX E A) w1 wr) ∧ Hid (Grew w1 (OwnX E A) (OwnX E A'))) (fun _ i _ => ns - (intOf i).toNat)
  case atStart => exact ⟨0, n, c, A, S, by omega, rfl, rfl, HSN, HS1, HSU1, HK0, HG0⟩
  case round =>
    obtain ⟨j, n', c', A', S', hj, rfl, rfl, HSN', HS, HSU', HK, HG⟩ := hrel
    have hbs := HK.out.1.size
    have HBK : Hid (Blk wr w.heap.size 77 #[.int .i64 3, .slice A1 nc c1, .slice A2 ns c2]) := Lib.hid ((HK.out.2 _ hw1s hnE.out).trans HK1.out)
    have p2 := HBK.out.cell 2
    have pl := HBK.out.lt
    have HKw : Hid (Kept B (OwnX E A) w wr) := Lib.hid (HE1.out.trans (Grew.refl _ _) HK.out)
    have HGw : Hid (Grew w (OwnX E A) (OwnX E A')) := Lib.hid (Grew.trans (by omega) (Grew.refl _ _) HG.out)
    by_cases hjn : j < ns
    · have HPr := Lib.hid (HP1.out.kept HK.out HG.out)
      have HTr := Lib.hid (HT1.out.kept HK.out HG.out)
      obtain ⟨b, o, q, B1, e1, B2, e2, rfl, hb, hq, q0', q1', q2', g1, g2, g3⟩ := HPr.out.at_ (k := j) (by rw [HNS.out]; exact hjn)
      have q0 := (era_some q0').1
      have q1 := (era_some q1').1
      have q2 := (era_some q2').1
      have hbl : b < wr.heap.size := hb
      have hqm := List.mem_of_getElem? hq.out
      have CQ := HIH.out q hqm E U S' A' c' n' B1 e1 B2 e2 x At ct nt tail B wr HS.out HSN'.out HSU'.out hU (by omega) ⟨g1, g2, g3⟩ HTr.out HTN.out (by have := nodes_mem hqm; omega) (fun d hd => HPD.out d (pdAlt_mem hqm d hd))
      clear q0' q1' q2' g1 g2 g3 hqm
      obtain ⟨qk, hqk⟩ : ∃ z, q.kind = z := ⟨_, rfl⟩
      obtain ⟨qn, hqn⟩ : ∃ z, q.cls.length = z := ⟨_, rfl⟩
      obtain ⟨qs, hqs⟩ : ∃ z, q.subs.length = z := ⟨_, rfl⟩
      rw [hqk, hqn, hqs] at CQ
      rw [hqk] at q0
      rw [hqn] at q1
      rw [hqs] at q2
      replace CQ := Lib.hid CQ
      clear hqk hqn hqs
      go_wp2_with fail
      refine CQ.out.mono ?_
      rintro e w2 ⟨A6, c6, S6, rfl, hS6, hSU6, hK6, hG6⟩
      have HS6 := Lib.hid hS6
      have HSU6 := Lib.hid hSU6
      have HK6 : Hid (Kept B (OwnX E A) w1 w2) := Lib.hid (HK.out.trans HG.out hK6)
      have HG6 : Hid (Grew w1 (OwnX E A) (OwnX E A6)) := Lib.hid (Grew.trans hbs HG.out hG6)
      obtain ⟨n6, hn6⟩ : ∃ z, S6.length = z := ⟨_, rfl⟩
      have HN6 := Lib.hid hn6
      rw [hn6]
      clear hn6 hS6 hSU6 hK6 hG6
      go_wp2
      go_roundw
      case rel => exact ⟨j + 1, n6, c6, A6, S6, by omega, by go_num, rfl, HN6, HS6, HSU6, HK6, HG6⟩
      case measure => simp [intOf] <;> omega
    · go_wp2
      go_ret
      refine ⟨A', c', S', ?_, HS.out, HSU'.out, HKw.out, HGw.out⟩
      rw [HSN'.out]
      rfl
set_option maxRecDepth 100000 in
set_option maxHeartbeats 4000000 in
theorem after_none (k : Int) (cl : List Int) (s : List Pat) (h1 : k ≠ 1) (h2 : k ≠ 2) (h3 : k ≠ 3) (h4 : k ≠ 4 ∨ s.length ≠ 1) : AfterOk (.mk k cl s) := by
  intro E U S A c n A1 c1 A2 c2 x At ct nt tail B w hS hSn hSU hU hB hP hT htn hbd hpd
  change Calls Try.prog 102 #[.slice A n c, .agg #[.int .i64 k, .slice A1 cl.length c1, .slice A2 s.length c2], .int .i64 x, .slice At nt ct] w _
  have hsl : s.length ≤ c2 ∧ c2 ≤ maxLen := hP.2.2.1
  obtain ⟨nc, hnc⟩ : ∃ z, cl.length = z := ⟨_, rfl⟩
  obtain ⟨ns, hns⟩ : ∃ z, s.length = z := ⟨_, rfl⟩
  rw [hns] at hsl h4 ⊢
  rw [hnc]
  have hsl2 := hsl.2
  unfold maxLen at hsl2
  obtain ⟨w1, hw1, HB1, HK1⟩ := boxV w 77 #[.int .i64 k, .slice A1 nc c1, .slice A2 ns c2]
  have HE1 : Hid (Kept B (OwnX E A) w w1) := Kept.below hB HB1.out
  have HS1 := Lib.hid (hS.after HB1.out)
  have HSU1 := Lib.hid hSU
  have HSN := Lib.hid hSn
  have d1 : decide (k = 1) = false := decide_eq_false h1
  have d2 : decide (k = 2) = false := decide_eq_false h2
  have d3 : decide (k = 3) = false := decide_eq_false h3
  clear hS hP hT hSU hSn htn hpd hnc hns hbd
  go_enter Try.func102, Try.ntmps102
  go_upto_region 1 with fail
  rw [← hw1]
  clear hw1
  have p0 := HK1.out.cell 0
  have p2 := HK1.out.cell 2
  have pl := HK1.out.lt
  by_cases g4 : k = 4
  · subst g4
    have g5 : ns ≠ 1 := h4.resolve_left (fun h => h rfl)
    have d5 : decide ((ns : Int) = 1) = false := decide_eq_false (by omega)
    go_wp2
    go_ret
    exact ⟨A, c, S, by rw [HSN.out]; rfl, HS1.out, HSU1.out, HE1.out, Grew.refl _ _⟩
  · have d4 : decide (k = 4) = false := decide_eq_false g4
    go_wp2
    go_ret
    exact ⟨A, c, S, by rw [HSN.out]; rfl, HS1.out, HSU1.out, HE1.out, Grew.refl _ _⟩
theorem PvAt.pats {w : World} {B : Nat} {p : Pat} {A1 A2 : Option Addr} {c1 c2 : Nat} (h : PvAt w B p A1 c1 A2 c2) : PatsAt w B [p] [.int .i64 p.kind, .slice A1 p.cls.length c1, .slice A2 p.subs.length c2] := by
  obtain ⟨k, cl, s⟩ := p
  obtain ⟨h1, h2, h3, us, h4, h5⟩ := h
  rw [PatsAt]
  refine ⟨_, [], (List.append_nil _).symm, rfl, ?_, by rw [PatsAt]⟩
  rw [PatAt]
  exact ⟨A1, c1, A2, c2, us, rfl, h1, h3, h2, h4, h5⟩
theorem own_lit3 (w : World) (t e : TypeId) (a b c : Value) (h : t = e) : (w.alloc (.cells #[a, b, c] t)).ownsRow w.heap.size e 3 (.slice (some ⟨w.heap.size, 0, none⟩) 1 1) 1 [a, b, c] := by
  subst h
  exact ⟨by simp, .inr ⟨w.heap.size, 1, #[a, b, c], rfl, Nat.le_refl _, heap_alloc_new w _, Nat.le_refl _, by simp [maxLen], by simp, by simp⟩⟩
set_option maxRecDepth 100000 in
set_option maxHeartbeats 4000000 in
theorem after_four (cl : List Int) (q : Pat) (s : List Pat) (hsq : s = [q]) (IH : ∀ q ∈ s, AfterOk q) : AfterOk (.mk 4 cl s) := by
  intro E U S A c n A1 c1 A2 c2 x At ct nt tail B w hS hSn hSU hU hB hP hT htn hbd hpd
  have hnd : nodes (.mk 4 cl s) = 1 + nodesL s := by rw [nodes]
  rw [hnd] at hbd
  change Calls Try.prog 102 #[.slice A n c, .agg #[.int .i64 4, .slice A1 cl.length c1, .slice A2 s.length c2], .int .i64 x, .slice At nt ct] w _
  have HPV := Lib.hid hP
  obtain ⟨i0, hi0, hz0, hz1, hz2⟩ := info_parts pat_info
  obtain ⟨hp1, hp2, hp3⟩ := hP
  change PsAt (era w (OwnX E A)) w.heap.size A2 c2 s at hp3
  obtain ⟨nc, hnc⟩ : ∃ z, cl.length = z := ⟨_, rfl⟩
  obtain ⟨ns, hns⟩ : ∃ z, s.length = z := ⟨_, rfl⟩
  obtain rfl : ns = 1 := by rw [← hns, hsq]; rfl
  rw [hns, hnc]
  obtain ⟨w1, hw1, HB1, HK1⟩ := boxV w 77 #[.int .i64 4, .slice A1 nc c1, .slice A2 1 c2]
  have hw1s : w.heap.size < w1.heap.size := HK1.out.lt
  have HE1 : Hid (Kept B (OwnX E A) w w1) := Kept.below hB HB1.out
  have hnE : Hid (¬ OwnX E A w.heap.size) := Lib.hid (fun h => by have := own_lt hS _ h; omega)
  have HS1 := Lib.hid (hS.after HB1.out)
  have HP1 := Lib.hid (hp3.kept HE1.out (Grew.refl _ _))
  have HT1 := Lib.hid (hT.kept HE1.out (Grew.refl _ _))
  have HSU1 := Lib.hid hSU
  have HSN := Lib.hid hSn
  have HTN := Lib.hid htn
  have HNS := Lib.hid hns
  have HNC := Lib.hid hnc
  have HIH := Lib.hid IH
  have HK0 : Hid (Kept B (OwnX E A) w1 w1) := Kept.refl _ _
  have HG0 : Hid (Grew w1 (OwnX E A) (OwnX E A)) := Grew.refl _ _
  have htl := HT1.out.1.1
  rw [htn] at htl
  have hsl := HP1.out.1
  rw [hns] at hsl
  have hsl1 := hsl.1
  have hsl2 := hsl.2
  unfold maxLen at hsl2
  have HIQ := Lib.hid (IH q (by rw [hsq]; simp))
  have hnq : nodes q ≤ nodesL s := nodes_mem (by rw [hsq]; simp)
  have HPD : Hid (∀ d ∈ pdL q, d ++ (.mk 4 cl s :: tail) ∈ U) := Lib.hid (fun d hd => by
    have := hpd (d ++ [.mk 4 cl s]) (by rw [hsq]; simp [pdL, pdStar]; exact hd)
    rw [List.append_assoc] at this
    exact this)
  obtain ⟨b, o, q9, B1, e1, B2, e2, rfl, hb, hq, q0', q1', q2', g1, g2, g3⟩ := HP1.out.at_ (k := 0) (by rw [hns]; omega)
  obtain rfl : q9 = q := by
    have := hq.out
    rw [hsq] at this
    exact (Option.some.inj this).symm
  have hnb : Hid (¬ OwnX E A b) := Lib.hid (era_some q0').2
  have q0 := (era_some q0').1
  have q1 := (era_some q1').1
  have q2 := (era_some q2').1
  have HQV := Lib.hid (⟨g1, g2, g3⟩ : PvAt (era w1 (OwnX E A)) w1.heap.size q9 B1 e1 B2 e2)
  obtain ⟨qk, hqk⟩ : ∃ z, q9.kind = z := ⟨_, rfl⟩
  obtain ⟨qn, hqn⟩ : ∃ z, q9.cls.length = z := ⟨_, rfl⟩
  obtain ⟨qs, hqs⟩ : ∃ z, q9.subs.length = z := ⟨_, rfl⟩
  rw [hqk] at q0
  rw [hqn] at q1
  rw [hqs] at q2
  have HQK := Lib.hid hqk
  have HQN := Lib.hid hqn
  have HQS := Lib.hid hqs
  simp only [Nat.zero_mul, Nat.add_zero] at q0 q1 q2
  have hbl : b < w1.heap.size := hb
  clear hS hp1 hp2 hp3 hT hSU hSn htn hpd hnc hns hsl IH g1 g2 g3 q0' q1' q2' hqk hqn hqs
  go_enter Try.func102, Try.ntmps102
  go_upto_region 1 with fail
  rw [← hw1]
  clear hw1
  have p0 := HK1.out.cell 0
  have p1 := HK1.out.cell 1
  have p2 := HK1.out.cell 2
  have pl := HK1.out.lt
  go_wp2
  refine wp_region_tree (fun w' => Blk w' w.heap.size 77 #[.int .i64 4, .slice A1 nc c1, .slice (some ⟨b, o, none⟩) 1 c2] ∧ (w'.cell? ⟨b, o, none⟩ = some (.int .i64 qk) ∧ w'.cell? ⟨b, o + 1, none⟩ = some (.slice B1 qn e1) ∧ w'.cell? ⟨b, o + 2, none⟩ = some (.slice B2 qs e2))) (.float 0 (.float 1 (.float 2 (.float 3 (.float 4 (.float 5 (.float 6 (.float 8 (.one 7 (.one 9 (.one 10 (.float 11 .done)))))))))))) (by kernel_rfl) (by kernel_rfl) (fun _ _ d _ _ h => by cases d <;> exact h) ⟨HK1.out.drew, q0, q1, q2⟩ ?_
  repeat (first
    | (refine wpTr_fskip (by simp only [List.getElem?_toArray, List.getElem?_cons_zero, List.getElem?_cons_succ]; rfl) (by rfl) ?_
       simp only [Act.put, List.setIfInBounds_toArray, List.set_cons_zero, List.set_cons_succ])
    | (refine wpTr_float (v := ?_) (by simp only [List.getElem?_toArray, List.getElem?_cons_zero, List.getElem?_cons_succ]; rfl) (by rfl) (fun w' hS => ?_) ?_
       rotate_left
       ((obtain ⟨hSK, e3', e4', e5'⟩ := hS; have e0' := hSK.cell 0; have e1' := hSK.cell 1; have e2' := hSK.cell 2; have el' := hSK.lt); go_simp; first | done | rfl)
       simp only [Act.put, List.setIfInBounds_toArray, List.set_cons_zero, List.set_cons_succ]))
  refine wpTr_one ?_
  refine stepTr_K (by simp only [List.getElem?_toArray, List.getElem?_cons_zero, List.getElem?_cons_succ]; rfl) (by rfl) (fun K hK => ?_)
  go_simp
  obtain ⟨w3, hw3, HB3, HO3⟩ : ∃ v, v = (w1.alloc (.cells #[.int .i64 4, .slice A1 nc c1, .slice (some ⟨b, o, none⟩) 1 c2] 77)).drew ∧ Hid (Below w1.heap.size w1 v) ∧ Hid (v.ownsRow w1.heap.size 77 3 (.slice (some ⟨w1.heap.size, 0, none⟩) 1 1) 1 [.int .i64 4, .slice A1 nc c1, .slice (some ⟨b, o, none⟩) 1 c2]) := ⟨_, rfl, ((Below.refl _ _).alloc (Nat.le_refl _) _).drew, ow_below (own_lit3 w1 _ _ _ _ _ rfl) (Below.refl _ _).drew⟩
  rw [← hw3]
  obtain ⟨lb, hlb⟩ : ∃ y, y = w1.heap.size := ⟨_, rfl⟩
  have HLB := Lib.hid hlb
  rw [← hlb] at HO3 ⊢
  clear hw3
  have HB3w : Hid (Below w.heap.size w w3) := Lib.hid (HB1.out.trans (HB3.out.mono (by omega)))
  have HK3 := Lib.hid (HK1.out.after HB3.out)
  have q03 := (HB3.out.cell (p := ⟨b, o, none⟩) hbl).trans q0
  have q13 := (HB3.out.cell (p := ⟨b, o + 1, none⟩) hbl).trans q1
  have q23 := (HB3.out.cell (p := ⟨b, o + 2, none⟩) hbl).trans q2
  have hlb3 : lb ≤ w3.heap.size := by rw [hlb]; exact HB3.out.size
  have HTT := Lib.hid HT1.out
  obtain ⟨htb, ts, hts, hpt⟩ := HTT.out
  have HPT := Lib.hid hpt
  have hln := hpt.len
  rw [HTN.out] at hln
  have HTS := Lib.hid hts
  have HTR3 := Lib.hid (hts.of_era.below HB3.out).lt
  have hone := Lib.hid hpt.one
  clear htb hts hpt hlb
  refine hK.out _ _ ⟨HK3.out, q03, q13, q23⟩ ?_
  clear hK K
  try simp only [Act.put, List.setIfInBounds_toArray, List.set_cons_zero, List.set_cons_succ]
  refine wpTr_one ?_
  refine stepTr_K (by simp only [List.getElem?_toArray, List.getElem?_cons_zero, List.getElem?_cons_succ]; rfl) (by rfl) (fun K hK => ?_)
  refine wp_append_row _ (.tmp 78) (.tmp 79) _ rfl lb 77 i0 _ 3 56 Try.underlying75 hi0 hz0 hz1 hz2 rfl (by omega) (.slice (some ⟨lb, 0, none⟩) 1 1) 1 [.int .i64 4, .slice A1 nc c1, .slice (some ⟨b, o, none⟩) 1 c2] rfl HO3.out _ _ nt ct ts rfl hln HTR3.out hone.out (by simp only [maxLen]; omega) (by omega) hlb3 ?_
  intro q6 w6 o6 g6 t6
  obtain ⟨A6, c6, rfl⟩ := ow_slice (m := 1 + nt) o6 rfl
  have HB6 : Hid (Below w1.heap.size w1 w6) := Lib.hid (HB3.out.grown g6 HB3.out.size (fun g hg => by rw [← HLB.out]; simp [Value.ownBlock] at hg; omega))
  have HO6 := Lib.hid o6
  clear o6 g6 t6
  have HB6w : Hid (Below w.heap.size w w6) := Lib.hid (HB1.out.trans (HB6.out.mono (by omega)))
  have HK6 := Lib.hid (HK1.out.after HB6.out)
  have q06 := (HB6.out.cell (p := ⟨b, o, none⟩) hbl).trans q0
  have q16 := (HB6.out.cell (p := ⟨b, o + 1, none⟩) hbl).trans q1
  have q26 := (HB6.out.cell (p := ⟨b, o + 2, none⟩) hbl).trans q2
  refine hK.out _ _ ⟨HK6.out, q06, q16, q26⟩ ?_
  clear hK K
  try simp only [Act.put, List.setIfInBounds_toArray, List.set_cons_zero, List.set_cons_succ]
  refine wpTr_one ?_
  refine stepTr_K (by simp only [List.getElem?_toArray, List.getElem?_cons_zero, List.getElem?_cons_succ]; rfl) (by rfl) (fun K hK => ?_)
  go_simp
  have hlt := own_lt HS1.out
  have hle1 : w1.heap.size ≤ w6.heap.size := HB6.out.size
  have HM6 : Hid (PsAt (era w6 (OwnX E A)) w6.heap.size A6 c6 (.mk 4 cl s :: tail)) := Lib.hid (by
    obtain ⟨r1, r2, r3⟩ := ow_row HO6.out
    refine ⟨⟨by rw [List.length_cons, HTN.out]; omega, r3⟩, _, ow_era HO6.out (fun g hg hE => ?_), ?_⟩
    · have h1 := own_base HO6.out g hg
      have h2 := hlt g hE
      have h3 := HLB.out
      omega
    · have h1 := PvAt.pats HPV.out
      simp only [Pat.kind, Pat.cls, Pat.subs] at h1
      rw [HNC.out, HNS.out] at h1
      exact PatsAt.append (a := [.mk 4 cl s]) (PatsAt.keep (fun _ _ h => (h.era_keep (fun b hb' _ => HB6w.out.block b hb') (fun _ _ h => h)).more HB6w.out.size) _ _ h1)
        (PatsAt.keep (fun _ _ h => (h.era_keep (fun b hb' _ => HB6.out.block b hb') (fun _ _ h => h)).more HB6.out.size) _ _ HPT.out))
  have HV6 : Hid (PvAt (era w6 (OwnX E A)) w6.heap.size q9 B1 e1 B2 e2) := Lib.hid ⟨HQV.out.1, (HQV.out.2.1.era_keep (fun b hb' _ => HB6.out.block b hb') (fun _ _ h => h)).more HB6.out.size, HQV.out.2.2.keptB HB6.out⟩
  have HS6 := Lib.hid (HS1.out.after HB6.out)
  have hB6 : B ≤ w6.heap.size := by omega
  have CQ := HIQ.out E U S A c n B1 e1 B2 e2 x A6 c6 (1 + nt) (.mk 4 cl s :: tail) B w6 HS6.out HSN.out HSU1.out hU hB6 HV6.out HM6.out (by rw [List.length_cons, HTN.out]; omega) (by omega) HPD.out
  rw [HQK.out, HQN.out, HQS.out] at CQ
  replace CQ := Lib.hid CQ
  have hbl6 : b < w6.heap.size := by omega
  have hwl6 : w.heap.size < w6.heap.size := by omega
  clear hlt
  refine CQ.out.mono ?_
  rintro e w7 ⟨A7, c7, S7, rfl, hS7, hSU7, hK7, hG7⟩
  have HK7 := Lib.hid hK7
  have HS7 := Lib.hid hS7
  have HSU7 := Lib.hid hSU7
  have HG7 : Hid (Grew w (OwnX E A) (OwnX E A7)) := Lib.hid (Grew.trans HB6w.out.size (Grew.refl _ _) hG7)
  have HKK7 : Hid (Kept B (OwnX E A) w w7) := Lib.hid ((Kept.below hB HB6w.out).trans (Grew.refl _ _) hK7)
  have HKB7 := Lib.hid ((HK7.out.2 _ hwl6 hnE.out).trans HK6.out)
  obtain ⟨n7, hn7⟩ : ∃ z, S7.length = z := ⟨_, rfl⟩
  have HN7 := Lib.hid hn7
  rw [hn7]
  clear hn7 hS7 hSU7 hK7 hG7
  refine hK.out _ _ ⟨HKB7.out, (World.cell?_of_block (HK7.out.2 b hbl6 hnb.out)).trans q06, (World.cell?_of_block (HK7.out.2 b hbl6 hnb.out)).trans q16, (World.cell?_of_block (HK7.out.2 b hbl6 hnb.out)).trans q26⟩ ?_
  clear hK K
  try simp only [Act.put, List.setIfInBounds_toArray, List.set_cons_zero, List.set_cons_succ]
  repeat (first
    | (refine wpTr_fskip (by simp only [List.getElem?_toArray, List.getElem?_cons_zero, List.getElem?_cons_succ]; rfl) (by rfl) ?_
       simp only [Act.put, List.setIfInBounds_toArray, List.set_cons_zero, List.set_cons_succ])
    | (refine wpTr_float (v := ?_) (by simp only [List.getElem?_toArray, List.getElem?_cons_zero, List.getElem?_cons_succ]; rfl) (by rfl) (fun w' hS => ?_) ?_
       rotate_left
       ((skip); go_simp; first | done | rfl)
       simp only [Act.put, List.setIfInBounds_toArray, List.set_cons_zero, List.set_cons_succ]))
  refine wpTr_done ?_
  go_wp2
  go_ret
  exact ⟨A7, c7, S7, by rw [HN7.out]; rfl, HS7.out, HSU7.out, HKK7.out, HG7.out⟩
theorem after29_any (p : Pat) : AfterOk p := by
  induction p using Pat.ind with
  | h k cl s ih =>
    by_cases h1 : k = 1
    · subst h1
      exact after_one cl s
    by_cases h2 : k = 2
    · subst h2
      exact after_two cl s ih
    by_cases h3 : k = 3
    · subst h3
      exact after_three cl s ih
    by_cases h4 : k = 4 ∧ s.length = 1
    · obtain ⟨rfl, hs⟩ := h4
      obtain ⟨q, rfl⟩ := List.length_eq_one_iff.1 hs
      exact after_four cl q [q] rfl ih
    · exact after_none k cl s h1 h2 h3 (by
        by_cases h5 : k = 4
        · exact .inr (fun h => h4 ⟨h5, h⟩)
        · exact .inl h5)
end Go.Proofs.Ytkoojoogddndnaa
