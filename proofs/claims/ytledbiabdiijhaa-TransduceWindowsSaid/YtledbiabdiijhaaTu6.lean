/-
  law51.one, law51.alive, law51.few.
-/
import Derived.Test.YtledbiabdiijhaaTt8
import Derived.Test.YtledbiabdiijhaaTm0
import Derived.Test.YtledbiabdiijhaaTs6
import Derived.Test.YtledbiabdiijhaaRef1
import Derived.Laws.Rows
namespace Go.UtYtledbiabdiijhaa
open Go.RowKit
theorem row_pr1 (w : World) (t : TypeId) (l : List (Int × Int)) (cs : Array Value) (h : cs.toList = prs l) : Row (w.alloc (.cells cs t)) (w.alloc (.cells cs t)).heap.size (some ⟨w.heap.size, 0, none⟩) (prs l) := (Blk.new w t cs).row h
end Go.UtYtledbiabdiijhaa
namespace Go.Proofs.Ytledbiabdiijhaa
open Go.RowKit Go.UtYtledbiabdiijhaa
theorem requal_v (A A' : Option Addr) (c c' B n n' : Nat) (xs ys : List Int) (w : World) (hx : Row w B A (ints xs)) (hy : Row w B A' (ints ys)) (hn : xs.length = n) (hn' : ys.length = n') (lx : n ≤ maxLen) (ly : n' ≤ maxLen) (v : Bool) (hv : decide (xs = ys) = v) :
    Calls Try.prog 15 #[.slice A n c, .slice A' n' c'] w fun e w' => e = .returned (.bool v) ∧ Below w.heap.size w w' := by
  subst hn hn'
  have := equal_below A A' c c' B xs ys w hx hy lx ly
  rw [cmpL_beq, hv] at this
  exact this
theorem lone_any (x : Int) (w : World) : Calls Try.prog 27 #[.int .i64 x] w fun e w' => ∃ A', e = .returned (.agg #[.slice A' 1 1]) ∧ Row w' w'.heap.size A' (prs [(x, x)]) ∧ Below w.heap.size w w' := by
  go_enter Try.func27, Try.ntmps27
  go_wp2
  refine bodyPost_ret (v := .agg #[.slice (some ⟨w.heap.size + 1, 0, none⟩) 1 1]) ?_ rfl ⟨_, rfl, ?_, below_box2 w _ _⟩
  · simp [results, Try.results27, go_sem]
  · have := row_pr1 (w.alloc (.cells #[.slice (some ⟨w.heap.size + 1, 0, none⟩) 1 1] 38)) 62 [(x, x)] #[.int .i64 x, .int .i64 x] rfl
    rw [World.size_alloc w] at this
    exact this
theorem ints_row3 {w : World} {t : TypeId} (a b c : Int) : Row (w.alloc (.cells #[.int .i64 a, .int .i64 b, .int .i64 c] t)) (w.alloc (.cells #[.int .i64 a, .int .i64 b, .int .i64 c] t)).heap.size (some ⟨w.heap.size, 0, none⟩) (ints [a, b, c]) := (Blk.new w t _).row rfl
theorem ints_row2 {w : World} {t : TypeId} (a b : Int) : Row (w.alloc (.cells #[.int .i64 a, .int .i64 b] t)) (w.alloc (.cells #[.int .i64 a, .int .i64 b] t)).heap.size (some ⟨w.heap.size, 0, none⟩) (ints [a, b]) := (Blk.new w t _).row rfl
theorem ex_sm : smR [exA, exB] := fun r hr => by
  simp at hr
  rcases hr with rfl | rfl
  · exact ⟨by simp [smS, exA], by simp [smS, exA], by simp [smS, exA]⟩
  · exact ⟨by simp [smS, exB], by simp [smS, exB], by simp [smS, exB]⟩
set_option maxRecDepth 100000 in
set_option maxHeartbeats 2000000 in
theorem alive_any (w : World) : Calls Try.prog 12 #[] w fun e w' => e = .returned (.bool true) ∧ Below w.heap.size w w' := by
  have HD : Hid (dataL [exA, exB] = [exA, exB]) := ex_data ex_both (by simp)
  go_enter Try.func12, Try.ntmps12
  go_wp2_with fail
  refine (lone_any 97 w).mono ?_
  rintro e w1 ⟨A1, rfl, hr1, hb1⟩
  have HB1 := Lib.hid hb1
  have HR1 := Lib.hid hr1
  clear hr1 hb1
  go_wp2_with fail
  refine (lone_any 98 w1).mono ?_
  rintro e w2 ⟨A2, rfl, hr2, hb2⟩
  have HB2 := Lib.hid (HB1.out.trans (hb2.mono HB1.out.size))
  have HR2 := Lib.hid hr2
  have HR1' := Lib.hid (HR1.out.below hb2).lt
  clear hr2 hb2 HR1 HB1
  go_wp2_with fail
  obtain ⟨w3, h3, HB3, HS3, HP3⟩ : ∃ w3, w3 = (w2.alloc (.cells #[.slice A1 1 1, .slice A2 1 1] 38)).alloc (.cells #[.int .i64 120, .int .i64 0] 51) ∧ Hid (Below w.heap.size w w3) ∧ Hid (SetsAt w3 w3.heap.size (some ⟨w2.heap.size, 0, none⟩) exA.mat) ∧ Hid (Row w3 w3.heap.size (some ⟨w2.heap.size + 1, 0, none⟩) (prs exA.res)) := by
    have hbb : Below w2.heap.size w2 ((w2.alloc (.cells #[.slice A1 1 1, .slice A2 1 1] 38)).alloc (.cells #[.int .i64 120, .int .i64 0] 51)) := below_box2 w2 _ _
    refine ⟨_, rfl, HB2.out.trans (hbb.mono HB2.out.size), sets_blk2 (s1 := [(97, 97)]) (s2 := [(98, 98)]) ((Blk.new w2 38 _).alloc _) rfl (by omega) (by simp [maxLen]) (HR1'.out.below hbb).lt rfl (by omega) (by simp [maxLen]) (HR2.out.below hbb).lt, ?_⟩
    have := row_pr1 (w2.alloc (.cells #[.slice A1 1 1, .slice A2 1 1] 38)) 51 exA.res #[.int .i64 120, .int .i64 0] rfl
    rw [World.size_alloc w2] at this
    exact this
  rw [← h3]
  clear h3 HR1' HR2 HB2
  refine (lone_any 97 w3).mono ?_
  rintro e w4 ⟨A4, rfl, hr4, hb4⟩
  have HB4 := Lib.hid (HB3.out.trans (hb4.mono HB3.out.size))
  have HR4 := Lib.hid hr4
  have HS4 := Lib.hid (HS3.out.below hb4).lt
  have HP4 := Lib.hid (HP3.out.below hb4).lt
  clear hr4 hb4 HB3 HS3 HP3
  go_upto_region 2 with fail
  obtain ⟨w5, h5, HB5, HRL⟩ : ∃ w5, w5 = ((w4.alloc (.cells #[.slice A4 1 1] 38)).alloc (.cells #[.int .i64 121, .int .i64 0] 51)).alloc (.cells #[.slice none 0 0, .slice (some ⟨w2.heap.size, 0, none⟩) 2 2, .slice none 0 0, .slice (some ⟨w2.heap.size + 1, 0, none⟩) 1 1, .slice none 0 0, .slice (some ⟨w4.heap.size, 0, none⟩) 1 1, .slice none 0 0, .slice (some ⟨w4.heap.size + 1, 0, none⟩) 1 1] 34) ∧ Hid (Below w.heap.size w w5) ∧ Hid (RulesAt w5 w5.heap.size (some ⟨w4.heap.size + 1 + 1, 0, none⟩) [exA, exB]) := by
    have hb0 : Below w4.heap.size w4 ((w4.alloc (.cells #[.slice A4 1 1] 38)).alloc (.cells #[.int .i64 121, .int .i64 0] 51)) := below_box2 w4 _ _
    have hs0 : SetsAt ((w4.alloc (.cells #[.slice A4 1 1] 38)).alloc (.cells #[.int .i64 121, .int .i64 0] 51)) ((w4.alloc (.cells #[.slice A4 1 1] 38)).alloc (.cells #[.int .i64 121, .int .i64 0] 51)).heap.size (some ⟨w4.heap.size, 0, none⟩) exB.mat := sets_blk1 (s1 := [(97, 97)]) ((Blk.new w4 38 _).alloc _) rfl (by omega) (by simp [maxLen]) (HR4.out.below hb0).lt
    have hp0 := row_pr1 (w4.alloc (.cells #[.slice A4 1 1] 38)) 51 exB.res #[.int .i64 121, .int .i64 0] rfl
    rw [World.size_alloc w4] at hp0
    obtain ⟨v, hv⟩ : ∃ v, (w4.alloc (.cells #[.slice A4 1 1] 38)).alloc (.cells #[.int .i64 121, .int .i64 0] 51) = v := ⟨_, rfl⟩
    have hsz : v.heap.size = w4.heap.size + 1 + 1 := by rw [← hv]; simp
    rw [hv] at hb0 hs0 hp0 ⊢
    have hb1 : Below v.heap.size v (v.alloc (.cells #[.slice none 0 0, .slice (some ⟨w2.heap.size, 0, none⟩) 2 2, .slice none 0 0, .slice (some ⟨w2.heap.size + 1, 0, none⟩) 1 1, .slice none 0 0, .slice (some ⟨w4.heap.size, 0, none⟩) 1 1, .slice none 0 0, .slice (some ⟨w4.heap.size + 1, 0, none⟩) 1 1] 34)) := (Below.refl _ _).alloc (Nat.le_refl _) _
    refine ⟨_, rfl, HB4.out.trans ((hb0.trans (hb1.mono (by omega))).mono HB4.out.size), ?_⟩
    have hk := Blk.new v 34 #[.slice none 0 0, .slice (some ⟨w2.heap.size, 0, none⟩) 2 2, .slice none 0 0, .slice (some ⟨w2.heap.size + 1, 0, none⟩) 1 1, .slice none 0 0, .slice (some ⟨w4.heap.size, 0, none⟩) 1 1, .slice none 0 0, .slice (some ⟨w4.heap.size + 1, 0, none⟩) 1 1]
    rw [hsz] at hk
    exact rules_blk2 hk (rule_of rfl rfl ((HS4.out.below hb0).lt.below hb1).lt ((HP4.out.below hb0).lt.below hb1).lt rfl (by omega) (by simp [maxLen]) rfl (by omega) (by simp [maxLen])) (rule_of rfl rfl (hs0.lt.below hb1).lt (hp0.lt.below hb1).lt rfl (by omega) (by simp [maxLen]) rfl (by omega) (by simp [maxLen]))
  rw [← h5]
  obtain ⟨ga, hga⟩ : ∃ g, g = w4.heap.size + 1 + 1 := ⟨_, rfl⟩
  rw [← hga] at HRL ⊢
  clear h5 hga HR4 HS4 HP4 HB4
  go_wp2_with fail
  obtain ⟨w6, h6, HB6, HT6, HRL6⟩ : ∃ w6, w6 = w5.alloc (.cells #[.int .i64 97, .int .i64 97, .int .i64 98] 3) ∧ Hid (Below w.heap.size w w6) ∧ Hid (Row w6 w6.heap.size (some ⟨w5.heap.size, 0, none⟩) (ints [97, 97, 98])) ∧ Hid (RulesAt w6 w6.heap.size (some ⟨ga, 0, none⟩) [exA, exB]) :=
    ⟨_, rfl, HB5.out.alloc HB5.out.size _, ints_row3 _ _ _, (HRL.out.below ((Below.refl _ _).alloc (Nat.le_refl _) _)).lt⟩
  rw [← h6]
  clear h6 HRL HB5
  refine (pStep_any (some ⟨ga, 0, none⟩) (some ⟨w5.heap.size, 0, none⟩) 2 3 [exA, exB] [97, 97, 98] 1 w6 HRL6.out ex_sm (by simp) (by simp [maxLen]) (by simp) HT6.out (by simp)).mono ?_
  rintro e w7 ⟨i, m, rfl, hst, hb7⟩
  rw [HD.out] at hst
  obtain ⟨rfl, rfl⟩ := stepIs_unique (.inl ⟨by omega, by simp, ex_step1⟩) hst
  have HB7 := Lib.hid (HB6.out.trans (hb7.mono HB6.out.size))
  have HRL7 := Lib.hid (HRL6.out.below hb7).lt
  clear hst hb7 HB6 HT6 HRL6
  go_wp2_with fail
  obtain ⟨w8, h8, HB8, HT8, HRL8⟩ : ∃ w8, w8 = w7.alloc (.cells #[.int .i64 97, .int .i64 97, .int .i64 98] 3) ∧ Hid (Below w.heap.size w w8) ∧ Hid (Row w8 w8.heap.size (some ⟨w7.heap.size, 0, none⟩) (ints [97, 97, 98])) ∧ Hid (RulesAt w8 w8.heap.size (some ⟨ga, 0, none⟩) [exA, exB]) :=
    ⟨_, rfl, HB7.out.alloc HB7.out.size _, ints_row3 _ _ _, (HRL7.out.below ((Below.refl _ _).alloc (Nat.le_refl _) _)).lt⟩
  rw [← h8]
  clear h8 HRL7 HB7
  refine (pApply_any (some ⟨ga, 0, none⟩) (some ⟨w7.heap.size, 0, none⟩) 2 3 [exA, exB] [97, 97, 98] w8 HRL8.out ex_sm (by simp) (by simp [maxLen]) (by simp) HT8.out (by simp) [121, 120] (by rw [HD.out]; exact ex_out)).mono ?_
  rintro e w9 ⟨A9, c9, rfl, _, _, hr9, hb9⟩
  have HB9 := Lib.hid (HB8.out.trans (hb9.mono HB8.out.size))
  have HR9 := Lib.hid hr9
  clear hr9 hb9 HB8 HT8 HRL8
  go_wp2_with fail
  obtain ⟨wa, ha, HBa, HRa, HTa⟩ : ∃ w8, w8 = w9.alloc (.cells #[.int .i64 121, .int .i64 120] 3) ∧ Hid (Below w.heap.size w w8) ∧ Hid (Row w8 w8.heap.size A9 (ints [121, 120])) ∧ Hid (Row w8 w8.heap.size (some ⟨w9.heap.size, 0, none⟩) (ints [121, 120])) :=
    ⟨_, rfl, HB9.out.alloc HB9.out.size _, (HR9.out.below ((Below.refl _ _).alloc (Nat.le_refl _) _)).lt, ints_row2 _ _⟩
  rw [← ha]
  clear ha
  refine (requal_v A9 (some ⟨w9.heap.size, 0, none⟩) c9 2 _ 2 2 [121, 120] [121, 120] wa HRa.out HTa.out rfl rfl (by simp [maxLen]) (by simp [maxLen]) true (by simp)).mono ?_
  rintro e wb ⟨rfl, hbb⟩
  have HBb := Lib.hid (HBa.out.trans (hbb.mono HBa.out.size))
  clear hbb
  go_wp2
  go_ret
  exact ⟨rfl, HBb.out⟩
set_option maxRecDepth 100000 in
set_option maxHeartbeats 1000000 in
theorem few_any (A At : Option Addr) (c ct : Nat) (rules : List TR) (text : List Int) (w : World) (hR : RulesAt w w.heap.size A rules) (hl : rules.length ≤ c) (hc : c ≤ maxLen) (v : Bool) (hv : v = true ↔ smL rules ∧ text.length ≤ 40) :
    Calls Try.prog 11 #[.slice A rules.length c, .slice At text.length ct] w fun e w' => e = .returned (.bool v) ∧ Below w.heap.size w w' := by
  have HV := Lib.hid hv
  by_cases hs : smL rules
  · have HS := smallR_any A c rules w hR hl hc true ⟨fun _ => hs, fun _ => rfl⟩
    obtain ⟨n, hn⟩ : ∃ n, rules.length = n := ⟨_, rfl⟩
    obtain ⟨nt, hnt⟩ : ∃ n, text.length = n := ⟨_, rfl⟩
    rw [hn] at HS
    rw [hn, hnt]
    have HF : Hid (decide ((nt : Int) ≤ 40) = v) := by
      show _ = _
      rw [Bool.eq_iff_iff, HV.out, decide_eq_true_iff, hnt]
      exact ⟨fun h => ⟨hs, by omega⟩, fun h => by have := h.2; omega⟩
    replace HS := Lib.hid HS
    clear hR hl hc hv hn hnt hs
    go_enter Try.func11, Try.ntmps11
    go_wp2_with fail
    refine HS.out.mono ?_
    rintro e w1 ⟨rfl, hb⟩
    have HB := Lib.hid hb
    clear hb
    go_wp2
    go_ret
    exact ⟨ret_bool HF.out, HB.out⟩
  · have HS := smallR_any A c rules w hR hl hc false ⟨fun h => (by cases h), fun h => absurd h hs⟩
    obtain ⟨n, hn⟩ : ∃ n, rules.length = n := ⟨_, rfl⟩
    rw [hn] at HS
    rw [hn]
    have HF : Hid (false = v) := by
      show _ = _
      cases v with
      | false => rfl
      | true => exact absurd (HV.out.1 rfl).1 hs
    replace HS := Lib.hid HS
    clear hR hl hc hv hn hs
    go_enter Try.func11, Try.ntmps11
    go_wp2_with fail
    refine HS.out.mono ?_
    rintro e w1 ⟨rfl, hb⟩
    have HB := Lib.hid hb
    clear hb
    go_wp2
    go_ret
    exact ⟨ret_bool HF.out, HB.out⟩
end Go.Proofs.Ytledbiabdiijhaa
