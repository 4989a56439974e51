/-
  cpset.Text: walk.
-/
import Derived.RangeFuncNested
import Derived.RangeFuncBound
import Derived.RangeFuncCalls
import Derived.RangeFuncLeaves
import Derived.Shelf.Abstract
import Derived.Shelf.RegionOpen
import Derived.WalkKit
import Derived.OwnWalkIn
import Derived.TacticsInMore
import Derived.LoopNIn
import Derived.LoopIn
import Derived.Maps.AppendAt
import Derived.KernelRfl
import Derived.Outline
import Derived.IntWalk
import Derived.Test.YtogfhaeohcpkjaaDoorProg
import Derived.Test.YtogfhaeohcpkjaaDoorCs11
import Derived.Test.YtogfhaeohcpkjaaDoorCp2
import Derived.Test.YtogfhaeohcpkjaaDoorStr
namespace Go.Proofs.YtogfhaeohcpkjaaDoor
open Go.RowKit Go.Shelf Go.UtYtogfhaeohcpkjaaDoor
attribute [local go_sem] Oper.semAt_some
theorem others_below {W W' : World} (h : Below W.heap.size W W') : KeepsOthers W W' := ⟨h.size, fun k _ hk _ => (h.block k (Array.getElem?_eq_some_iff.1 hk).1).trans hk⟩
theorem KpR.grown {W0 W W' : World} {base e size n : Nat} {v : Value} {xs : List Value} (h : KpR W0 W) (ho : W.ownsRow base e size v n xs) (he : e ≠ 37) (hg : W.grownBy W' v.ownBlock) : KpR W0 W' := by
  refine ⟨Nat.le_trans h.1 hg.size, fun g cs fr hc => ?_⟩
  have h1 := h.2 g cs fr hc
  have h2 := h1.trans hc
  refine (hg.block g (Array.getElem?_eq_some_iff.1 h2).1 (fun e' => ?_)).trans h1
  rcases ho.2 with ⟨rfl, _⟩ | ⟨g', cap, cur, rfl, _, hh, _⟩
  · simp [Value.ownBlock] at e'
  · simp [Value.ownBlock] at e'
    subst e'
    rw [h2] at hh
    injection hh with hh
    injection hh with _ hh
    exact he hh.symm
def bya (l : List UInt8) : ByteArray := ⟨l.toArray⟩
def strs (pre : List IRg) : List Value := pre.map fun x => .string (bya (word x.1))
theorem strs_snoc (pre : List IRg) (x : IRg) : strs (pre ++ [x]) = strs pre ++ [.string (bya (word x.1))] := by simp [strs]
theorem str_info : (Tryd.prog.info? 9).map (fun i => (i.zero, i.size, i.bytes)) = some (some (.string ByteArray.empty), 1, 16) := by kernel_rfl
theorem cat_two (s1 s2 : List UInt8) : ByteArray.mk s1.toArray ++ (ByteArray.mk #[46, 46] ++ ByteArray.mk s2.toArray) = bya (s1 ++ 46 :: 46 :: s2) := by
  apply ByteArray.ext
  simp [bya]
theorem join_strs (ys : List IRg) : Lib.join ((ys.map fun x => bya (word x.1)).map (·.data.toList)) (ByteArray.mk #[32]).data.toList = textR (ys.map (·.1)) := by
  unfold textR
  rw [List.map_map, List.map_map]
  congr 1
set_option maxRecDepth 100000 in
set_option maxHeartbeats 2000000 in
theorem text_any (A : Option Addr) (c : Nat) (rs : List Rg) (w : World) (hd : Digs w) (hR : Row w w.heap.size A (rgs rs)) (hm : rs.length ≤ 1099511627776) (s : List UInt8) (hs : ∀ r, Cnn r → (∀ x, hasP r x ↔ hasP rs x) → textR r = s) :
    Calls Tryd.prog 26 #[.agg #[.slice A rs.length c]] w fun e w' => e = .returned (.string ⟨s.toArray⟩) ∧ Below w.heap.size w w' := by
  have HS := Lib.hid hs
  have HR := Lib.hid hR
  have HD := Lib.hid hd
  clear hs hR hd
  obtain ⟨i0, hi0, hz0, hz1, hz2⟩ := info_parts str_info
  refine (callsIn_wide (n := 3)).1 ?_
  refine callsIn_of_wp_marks Tryd.func26 rfl trivial ?_ rfl
  simp only [Tryd.ntmps26, List.size_toArray, List.length_cons, List.length_nil, Nat.reduceAdd, Nat.reduceSub, Array.replicate_succ, Array.replicate_zero, List.push_toArray, List.append_toArray, List.nil_append, List.cons_append]
  gi_wp2_with (refine ⟨trivial, ?_⟩; refine (callsIn_wide.2 (all_any _ _ _ _)).mono ?_; rintro e w' ⟨rfl, rfl⟩)
  have bX : ∀ W0, ((w.alloc (.cells #[.slice A rs.length c] 24)).alloc (.cells #[.slice none 0 0] 54)).alloc (.cells #[.slice A rs.length c] 24) = W0 → Boxed W0 (w.heap.size + 1) 54 (.slice none 0 0) ∧ Boxed W0 (w.heap.size + 1 + 1) 24 (.slice A rs.length c) ∧ Below w.heap.size w W0 ∧ W0.heap.size = w.heap.size + 3 := by
    rintro _ rfl
    have b1 := (Boxed.new (w.alloc (.cells #[.slice A rs.length c] 24)) 54 (.slice none 0 0)).alloc (.cells #[.slice A rs.length c] 24)
    have b2 := Boxed.new ((w.alloc (.cells #[.slice A rs.length c] 24)).alloc (.cells #[.slice none 0 0] 54)) 24 (.slice A rs.length c)
    simp only [World.size_alloc] at b1 b2
    exact ⟨b1, b2, (((Below.refl _ w).alloc (Nat.le_refl _) _).alloc (by simp) _).alloc (by simp; omega) _, by simp⟩
  generalize hW0 : ((w.alloc (.cells #[.slice A rs.length c] 24)).alloc (.cells #[.slice none 0 0] 54)).alloc (.cells #[.slice A rs.length c] 24) = W0
  obtain ⟨b1, b2, hB0, hsz⟩ := bX W0 hW0
  clear bX hW0
  refine wpIn_rangeFunc_ownH rfl (by omega) (gf := 63) (lb := #[.pointer (some ⟨w.heap.size + 1 + 1, 0, none⟩)]) rfl trivial (enters_of Tryd.func63 (by kernel_rfl) rfl)
    (all_stops _ (w.heap.size + 1 + 1) A c rs W0 (by omega) b2.cell (HR.out.below hB0).lt hm) KpR.trans (KpR.book (w := W0)) (Below.refl _ _) (fun _ => rfl)
    (fun pre W => (∃ v, Boxed W (w.heap.size + 1) 54 v ∧ W.ownsRow w.heap.size 9 1 v pre.length (strs pre) ∧ True) ∧ Below w.heap.size w W)
    (fun _ _ _ => False)
    (OwnFrom.and (Own.from (holdsRow_own w.heap.size (w.heap.size + 1) 54 9 1 (fun pre => pre.length) strs (fun _ _ => True)) _) (ownFrom_below (Nat.le_refl _) (by omega)))
    (fun _ _ _ _ _ hs _ _ => hs)
    ⟨⟨_, b1, own_nil _, trivial⟩, hB0⟩
    (fun x a' W => ∃ Bx, w.heap.size + 1 < Bx ∧ W.heap[Bx]? = some (.cells #[.int .i64 x.1.1, .int .i64 x.1.2] 37 (0, 0)) ∧ a' = { tmps := #[.agg #[.slice A rs.length c], .pointer (some ⟨w.heap.size, 0, none⟩), .string ⟨#[]⟩, .pointer (some ⟨w.heap.size + 1, 0, none⟩), .pointer (some ⟨Bx, 0, none⟩), undef, .agg #[.slice A rs.length c], .func (.func 63) #[] #[.pointer (some ⟨w.heap.size + 1 + 1, 0, none⟩)], .agg #[.int .i64 x.1.1, .int .i64 x.1.2], undef, undef, undef, undef, undef, undef, undef, undef, undef, undef, undef, undef, undef, undef, undef, undef, undef, undef, undef, undef], defers := [] })
    (fun x a' _ X Y row hs hg hr => by obtain ⟨Bx, h1, h2, h3⟩ := hs; exact ⟨Bx, h1, cells_kept h2 hg hr, h3⟩)
    ?assign ?body ?done ?stop
  case assign =>
    rintro l pre x W K ⟨⟨v, q1, hrow, -⟩, hB1⟩ hK
    have HK := Lib.hid hK
    have HO := Lib.hid hrow
    clear hK hrow
    simp only [encR1]
    gi_wp2
    exact HK.out _ _ ((KeepsOthers.alloc _ _).from _) (KpR.below ((Below.refl _ W).alloc (Nat.le_refl _) _)) ⟨⟨v, q1.alloc _, ow_alloc HO.out _, trivial⟩, hB1.alloc hB1.size _⟩ ⟨W.heap.size, by have := q1.lt; omega, World.alloc_heap_new W _, rfl⟩
  case body =>
    rintro l pre x a' W hl hrec ⟨⟨v, q1, hrow, -⟩, hB1⟩ ⟨Bx, hBx, hX, rfl⟩ hlt
    have HO := Lib.hid hrow
    have HB1 := Lib.hid hB1
    have HX := Lib.hid (show Blk W Bx _ _ from hX)
    have HD1 := Lib.hid (HD.out.below hB1)
    have HQ1 := Lib.hid q1
    have HSN := Lib.hid (strs_snoc pre x)
    clear hrow hB1 hX q1 hrec
    obtain ⟨⟨lo, hi⟩, hin⟩ := x
    dsimp only at HX HSN ⊢
    have c2 := HX.out.cell 0
    have c3 := HX.out.cell 1
    simp at c2 c3
    by_cases h : lo = hi
    · subst h
      have HW := Lib.hid (show hexS lo = word (lo, lo) from (word_one (r := (lo, lo)) rfl).symm)
      have hcq := HQ1.out.cell
      gi_wp2_with (first
       | (refine ⟨trivial, ?_⟩
          refine (CallsIn.inRound l (callsIn_wide.2 (hex_any lo _ HD1.out _ HW.out))).mono ?_
          rintro e u1 ⟨rfl, hb1⟩
          have HO2 := Lib.hid (ow_below HO.out hb1)
          have HB2 := Lib.hid (HB1.out.trans (hb1.mono HB1.out.size))
          have HX2 := Lib.hid (HX.out.after hb1)
          have HD2 := Lib.hid (HD.out.below HB2.out)
          have HQ2 := Lib.hid (show Boxed u1 _ _ _ from (show Blk _ _ _ _ from HQ1.out).after hb1)
          have HK2 := Lib.hid (others_below hb1)
          have HP2 := Lib.hid (KpR.below hb1)
          have c2 := HX2.out.cell 0
          have c3 := HX2.out.cell 1
          simp at c2 c3
          clear hb1 HD1
          have hcq := HQ2.out.cell)
       | (gi_at_builtin
          refine wpListIn_append_own _ rfl _ _ 54 rfl w.heap.size 9 i0 _ 1 16 Tryd.underlying54 hi0 hz0 hz1 hz2 rfl (by decide) v pre.length (strs pre) rfl (ow_alloc HO2.out _) ⟨u1.heap.size, 0, none⟩ 1 1 [.string (bya (word (lo, lo)))] rfl rfl (cell_one_new _ _ _) (by simp [Value.oneCell']) (by simp only [maxLen]; omega) (by omega) (by have := HB2.out.size; simp; omega) ?_
          intro v' w1 hown' hgrow _
          obtain ⟨g', cap', rfl⟩ := ownsRow_succ hown'
          obtain ⟨hv1, hv2, hr2, hk2, hb2⟩ := HQ2.out.appended (by decide) HO2.out HB2.out.size (by omega) hown' hgrow
          have hkp := ((HP2.out.trans (KpR.below ((Below.refl _ u1).alloc (Nat.le_refl _) _))).grown (ow_alloc HO2.out _) (by decide) hgrow)
          have hc1 := hv1.cell
          have hf1 := hv1.frozen
          have HV2 := Lib.hid hv2
          have HR2 := Lib.hid hr2
          have HK9 := Lib.hid (HK2.out.trans hk2)
          have HB9 := Lib.hid (HB2.out.trans hb2)
          have HP9 := Lib.hid (hkp.set hv1 (by decide) 0 (.slice (some ⟨g', 0, none⟩) (pre.length + 1) cap'))
          clear hown' hgrow hv2 hr2 hk2 hb2 hv1 hkp))
      refine ⟨HK9.out.from _, HP9.out, ⟨_, HV2.out, ?_, trivial⟩, HB9.out⟩
      rw [List.length_append, HSN.out]
      exact HR2.out
    · have h1 : (lo != hi) = true := by simpa using h
      have h2 : (lo == hi) = false := by simpa using h
      have HW := Lib.hid (show (word (lo, hi)) = hexS lo ++ 46 :: 46 :: hexS hi from word_two h)
      obtain ⟨s1, hs1⟩ : ∃ s1, hexS lo = s1 := ⟨_, rfl⟩
      obtain ⟨s2, hs2⟩ : ∃ s2, hexS hi = s2 := ⟨_, rfl⟩
      rw [hs1, hs2] at HW
      have hl1 : s1.length ≤ 6 := by rw [← hs1]; exact (hex_len ⟨hin.1, Int.le_trans hin.2.1 hin.2.2⟩).2
      have hl2 : s2.length ≤ 6 := by rw [← hs2]; exact (hex_len ⟨Int.le_trans hin.1 hin.2.1, hin.2.2⟩).2
      have HS1 := Lib.hid hs1
      have HS2 := Lib.hid hs2
      clear hs1 hs2
      rw [HW.out, ← cat_two] at HSN
      gi_wp2_with fail
      refine ⟨trivial, ?_⟩
      refine (CallsIn.inRound l (callsIn_wide.2 (hex_any lo _ HD1.out _ HS1.out))).mono ?_
      rintro e u1 ⟨rfl, hb1⟩
      have HO2 := Lib.hid (ow_below HO.out hb1)
      have HB2 := Lib.hid (HB1.out.trans (hb1.mono HB1.out.size))
      have HX2 := Lib.hid (HX.out.after hb1)
      have HD2 := Lib.hid (HD.out.below HB2.out)
      have HQ2 := Lib.hid (show Boxed u1 _ _ _ from (show Blk _ _ _ _ from HQ1.out).after hb1)
      have HK2 := Lib.hid (others_below hb1)
      have HP2 := Lib.hid (KpR.below hb1)
      have c2 := HX2.out.cell 0
      have c3 := HX2.out.cell 1
      simp at c2 c3
      clear hb1 HD1
      gi_wp2_with fail
      refine ⟨trivial, ?_⟩
      refine (CallsIn.inRound l (callsIn_wide.2 (hex_any hi _ HD2.out _ HS2.out))).mono ?_
      rintro e u2 ⟨rfl, hb2⟩
      have HO3 := Lib.hid (ow_below HO2.out hb2)
      have HB3 := Lib.hid (HB2.out.trans (hb2.mono HB2.out.size))
      have HX3 := Lib.hid (HX2.out.after hb2)
      have HD3 := Lib.hid (HD.out.below HB3.out)
      have HQ3 := Lib.hid (show Boxed u2 _ _ _ from (show Blk _ _ _ _ from HQ2.out).after hb2)
      have HK3 := Lib.hid (HK2.out.trans (others_below hb2))
      have HP3 := Lib.hid (HP2.out.trans (KpR.below hb2))
      have c2 := HX3.out.cell 0
      have c3 := HX3.out.cell 1
      simp at c2 c3
      clear hb2 HD2
      have hcq := HQ3.out.cell
      gi_wp2_with (first
       | (gi_at_builtin
          refine wpListIn_append_own _ rfl _ _ 54 rfl w.heap.size 9 i0 _ 1 16 Tryd.underlying54 hi0 hz0 hz1 hz2 rfl (by decide) v pre.length (strs pre) rfl (ow_alloc HO3.out _) ⟨u2.heap.size, 0, none⟩ 1 1 [.string (ByteArray.mk s1.toArray ++ (ByteArray.mk #[46, 46] ++ ByteArray.mk s2.toArray))] rfl rfl (cell_one_new _ _ _) (by simp [Value.oneCell']) (by simp only [maxLen]; omega) (by omega) (by have := HB3.out.size; simp; omega) ?_
          intro v' w1 hown' hgrow _
          obtain ⟨g', cap', rfl⟩ := ownsRow_succ hown'
          obtain ⟨hv1, hv2, hr2, hk2, hb2⟩ := HQ3.out.appended (by decide) HO3.out HB3.out.size (by omega) hown' hgrow
          have hkp := ((HP3.out.trans (KpR.below ((Below.refl _ u2).alloc (Nat.le_refl _) _))).grown (ow_alloc HO3.out _) (by decide) hgrow)
          have hc1 := hv1.cell
          have hf1 := hv1.frozen
          have HV2 := Lib.hid hv2
          have HR2 := Lib.hid hr2
          have HK9 := Lib.hid (HK3.out.trans hk2)
          have HB9 := Lib.hid (HB3.out.trans hb2)
          have HP9 := Lib.hid (hkp.set hv1 (by decide) 0 (.slice (some ⟨g', 0, none⟩) (pre.length + 1) cap'))
          clear hown' hgrow hv2 hr2 hk2 hb2 hv1 hkp))
      refine ⟨HK9.out.from _, HP9.out, ⟨_, HV2.out, ?_, trivial⟩, HB9.out⟩
      rw [List.length_append, HSN.out]
      exact HR2.out
  case done =>
    rintro D ys W hD hS ⟨⟨v, q1, hrow, -⟩, hB1⟩ hK
    have HF := Lib.hid (HS.out _ hS.1 hS.2)
    have hcq := q1.cell
    have hyl : ys.length ≤ 1114112 := by have := can_len hS.1; rwa [List.length_map] at this
    have HB1 := Lib.hid hB1
    have HK := Lib.hid hK
    have HI := Lib.hid (cnn_inside hS.1)
    clear hB1 hS hK
    rcases hrow.2 with ⟨rfl, h0⟩ | ⟨g, cap, cur, rfl, hgb, hh, hnc, hcm, hcs, hct⟩
    · obtain rfl : ys = [] := List.eq_nil_of_length_eq_zero h0
      obtain rfl : s = [] := HF.out.symm
      clear hrow h0
      gi_wp2_with (refine ⟨trivial, ?_⟩; refine (callsIn_wide.2 (Tryd.strings_Join_none _ _ _ _)).mono ?_; rintro e w' ⟨rfl, hw'⟩; obtain rfl : W = w' := hw'.symm)
      refine ⟨by simp, .inl ⟨_, _, rfl, run_takeDeferred HK.out, ?_⟩⟩
      exact ⟨_, results_tmp rfl _ _ _, rfl, HB1.out.trans (belowK_b (w := w) (Nat.le_refl _) W D _ _ (by omega) HK.out rfl rfl)⟩
    · have hJ := Tryd.strings_Join g 0 cap (ys.map fun x => bya (word x.1)) ⟨#[32]⟩ W (fun j x hx => by
        have := hrow.cellAt j (by rw [List.getElem?_map] at hx; cases hy : ys[j]? with | none => rw [hy] at hx; simp at hx | some y => have := (List.getElem?_eq_some_iff.1 hy).1; omega)
        rw [Nat.zero_add]
        refine this.trans ?_
        unfold strs
        rw [List.getElem?_map] at hx ⊢
        cases hy : ys[j]? with
        | none => rw [hy] at hx; simp at hx
        | some y => rw [hy] at hx; simp at hx; subst hx; rfl) (Array.getElem?_eq_some_iff.1 hh).1 (by rw [List.length_map]; omega) (by rw [List.length_map]; exact hnc) (by
          rw [join_strs]
          have := textR_len HI.out
          rw [List.length_map] at this
          omega)
      rw [join_strs, HF.out, List.length_map] at hJ
      have HJ := Lib.hid hJ
      clear hJ hrow hh hct
      gi_wp2_with (refine ⟨trivial, ?_⟩; refine (callsIn_wide.2 HJ.out).mono ?_; rintro e w9 ⟨rfl, hb9⟩)
      have hK9 := (hb9.block D (Array.getElem?_eq_some_iff.1 HK.out).1).trans HK.out
      refine ⟨by simp, .inl ⟨_, _, rfl, run_takeDeferred hK9, ?_⟩⟩
      exact ⟨_, results_tmp rfl _ _ _, rfl, (HB1.out.trans (hb9.mono HB1.out.size)).trans (belowK_b (w := w) (Nat.le_refl _) w9 D _ _ (by omega) hK9 rfl rfl)⟩
  case stop =>
    rintro D cd pre W _ _ h _
    exact h.elim
end Go.Proofs.YtogfhaeohcpkjaaDoor
