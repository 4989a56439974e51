/-
  A new stream; law52.awake.
-/
import Derived.Test.YtjohoohdjlajcaaSt1
import Derived.Test.YtjohoohdjlajcaaSn0
import Derived.Test.YtjohoohdjlajcaaSl0
import Derived.Test.YtjohoohdjlajcaaRef1
import Derived.Test.YtjohoohdjlajcaaTu3
namespace Go.UtYtjohoohdjlajcaa
open Go.RowKit
theorem exA_only : ∀ r ∈ [exA], r = exA ∨ r = exB := fun r hr => .inl (by simpa using hr)
theorem exA_data : dataL [exA] = [exA] := ex_data exA_only (by simp)
theorem exA_st1 : stS [exA] [97] 2 0 = ([], 0) := stS_stop (by simp)
theorem exA_step : IsStep [exA] [97, 99] 0 (-1) 1 := .inl ⟨rfl, rfl, fun k r hr => by
  cases k with
  | zero =>
    simp at hr
    subst hr
    exact ex_notA (c := 99) rfl (by omega)
  | succ k => simp at hr⟩
theorem exA_step1 : IsStep [exA] [97, 99] 1 (-1) 1 := .inl ⟨rfl, rfl, fun k r hr => by
  cases k with
  | zero =>
    simp at hr
    subst hr
    exact ex_notA0 (c := 99) rfl (by omega)
  | succ k => simp at hr⟩
theorem exA_st2 : stS [exA] [97, 99] 2 0 = ([97], 1) := by
  rw [stS_step (ex_mat exA_only) (by omega) (by simp) exA_step, show 0 + (1 : Int).toNat = 1 by rfl, stS_stop (by simp)]
  simp [writS]
theorem exA_out : outR [exA] [97, 99] 1 = [99] := by
  rw [outR_step (ex_mat exA_only) (by simp) exA_step1, show 1 + (1 : Int).toNat = 2 by rfl, outR_end (by simp)]
  simp [writS]
end Go.UtYtjohoohdjlajcaa
namespace Go.Proofs.Ytjohoohdjlajcaa
open Go.RowKit Go.UtYtjohoohdjlajcaa
theorem requal_v (A A' : Option Addr) (c c' B n n' : Nat) (xs ys : List Int) (w : World) (hx : Row w B A (ints xs)) (hy : Row w B A' (ints ys)) (hn : xs.length = n) (hn' : ys.length = n') (lx : n ≤ maxLen) (ly : n' ≤ maxLen) (v : Bool) (hv : decide (xs = ys) = v) :
    Calls Try.prog 16 #[.slice A n c, .slice A' n' c'] w fun e w' => e = .returned (.bool v) ∧ Below w.heap.size w w' := by
  subst hn hn'
  have := equal_below A A' c c' B xs ys w hx hy lx ly
  rw [cmpL_beq, hv] at this
  exact this
theorem stS_len {D : List TR} (hok : ∀ r ∈ D, chk1 r = 0) {inp : List Int} {h : Nat} (h1 : 1 ≤ h) : ∀ p, p ≤ inp.length → (stS D inp h p).1.length + 16 * p ≤ 16 * (stS D inp h p).2 := by
  have hm : matOk D := fun r hr => (chk1_ok (hok r hr)).1.1
  refine st_induct (P := fun p => (stS D inp h p).1.length + 16 * p ≤ 16 * (stS D inp h p).2) hm h1 ?_ ?_
  · intro p hp hh
    rw [stS_stop hh]
    simp
  · intro p i n hh hs hle ih
    have hn := step_pos hm hs
    have hw := writS_len hok hs
    rw [stS_step hm h1 hh hs]
    simp only [List.length_append]
    omega
/-- a row of the law's own grows beside a stream -/
theorem StrAt.app {w w' : World} {Y : Nat → Prop} {X : Nat → Prop} {B g : Nat} {D : List TR} {bf ah : Nat} {inp : List Int} {p : Nat} {v v' : Value} (h : StrAt w Y (fun x => v.ownBlock = some x ∨ X x) B g D bf ah inp p) (g1 : w.grownBy w' v.ownBlock) (ht : v'.ownBlock = v.ownBlock ∨ v'.ownBlock = some w.heap.size) :
    StrAt w' Y (fun x => v'.ownBlock = some x ∨ X x) B g D bf ah inp p := by
  have h2 : StrAt w Y (fun x => (v.ownBlock = some x ∨ v'.ownBlock = some x) ∨ X x) B g D bf ah inp p := h.newX fun x hx => by
    rcases hx with (hx | hx) | hx
    · exact .inr (.inl hx)
    · rcases ht with ht | ht
      · exact .inr (.inl (ht ▸ hx))
      · rw [ht] at hx
        injection hx with hx
        exact .inl (by omega)
    · exact .inr (.inr hx)
  have h3 : StrAt w' Y (fun x => (v.ownBlock = some x ∨ v'.ownBlock = some x) ∨ X x) B g D bf ah inp p := h2.keep g1.size fun b hb hx => g1.block b hb (fun e => hx (.inl (.inl e.symm)))
  exact h3.newX fun x hx => by
    rcases hx with hx | hx
    · exact .inr (.inl (.inr hx))
    · exact .inr (.inr hx)
/-- a new stream has no input -/
theorem str_new {w' : World} {gs B1 cr B : Nat} {Ar : Option Addr} {D : List TR} {bf ah : Nat} {X : Nat → Prop} (h1 : B ≤ gs) (h2 : gs < B1) (h3 : B1 ≤ w'.heap.size) (h4 : D.length ≤ cr) (h5 : cr ≤ maxLen) (h6 : Blk w' gs 53 (strC none 0 0 0 Ar D.length cr bf ah true)) (h7 : RulesAt (era w' (· ≤ gs)) B1 Ar D) (hX : ∀ x, X x → x < gs) :
    StrAt w' (fun y => y = gs) X B gs D bf ah [] 0 :=
  ⟨none, Ar, 0, cr, 0, 0, B1, h6, own_nil _, h7.era_keep (fun _ _ _ => rfl) (fun x _ h => by
    rcases h with h | h
    · exact h
    · have := hX x h
      omega), ⟨h4, h5⟩, ⟨h1, h2, h3⟩, .inl rfl, Nat.le_refl _, Nat.le_refl _, rfl, (fun h => by have := hX gs h; omega), (fun x hx => by simp [Value.ownBlock] at hx), fun y => ⟨fun h => .inl h, fun h => by
      rcases h with h | h
      · exact h
      · simp [Value.ownBlock] at h⟩⟩
theorem exA_reach : bfR [exA] = 0 ∧ max (ahR [exA]) 1 = 2 := ⟨rfl, rfl⟩
theorem exA_chk : chkL [exA] = 0 := by
  have := exA_data
  unfold dataL at this
  by_cases h : chkL [exA] = 0
  · exact h
  · rw [if_neg h] at this
    cases this
theorem exA_sm : smR [exA] := fun r hr => by
  simp at hr
  subst hr
  exact ⟨by simp [smS, exA], by simp [smS, exA], by simp [smS, exA]⟩
theorem exA_ok : okD [exA] 0 2 := ⟨exA_data, exA_sm, Nat.le_refl _, by omega, by omega, by omega⟩
theorem ints_row1 {w : World} {t : TypeId} (a : Int) : Row (w.alloc (.cells #[.int .i64 a] t)) (w.alloc (.cells #[.int .i64 a] t)).heap.size (some ⟨w.heap.size, 0, none⟩) (ints [a]) := (Blk.new w t _).row rfl
set_option maxRecDepth 100000 in
set_option maxHeartbeats 4000000 in
theorem awake_any (w : World) : Calls Try.prog 12 #[] w fun e w' => e = .returned (.bool true) ∧ Below w.heap.size w w' := by
  go_enter Try.func12, Try.ntmps12
  go_wp2_with fail
  refine (lone52_any 97 w).mono ?_
  rintro e w1 ⟨A1, rfl, hr1, hb1⟩
  have HB1 := Lib.hid hb1
  have HR1 := Lib.hid hr1
  clear hr1 hb1
  go_wp2_with fail
  refine (lone52_any 98 w1).mono ?_
  rintro e w2 ⟨A2, rfl, hr2, hb2⟩
  have HB2 := Lib.hid (HB1.out.trans (hb2.mono HB1.out.size))
  have HR2 := Lib.hid hr2
  have HR1' := Lib.hid (HR1.out.below hb2).lt
  clear hr2 hb2 HR1 HB1
  go_wp2_with fail
  obtain ⟨w3, h3, HB3, HRL⟩ : ∃ w3, w3 = ((w2.alloc (.cells #[.slice A1 1 1, .slice A2 1 1] 45)).alloc (.cells #[.int .i64 120, .int .i64 0] 59)).alloc (.cells #[.slice none 0 0, .slice (some ⟨w2.heap.size, 0, none⟩) 2 2, .slice none 0 0, .slice (some ⟨w2.heap.size + 1, 0, none⟩) 1 1] 41) ∧ Hid (Below w.heap.size w w3) ∧ Hid (RulesAt w3 w3.heap.size (some ⟨w2.heap.size + 1 + 1, 0, none⟩) [exA]) := by
    have hb0 : Below w2.heap.size w2 ((w2.alloc (.cells #[.slice A1 1 1, .slice A2 1 1] 45)).alloc (.cells #[.int .i64 120, .int .i64 0] 59)) := below_box2 w2 _ _
    have hs0 : SetsAt ((w2.alloc (.cells #[.slice A1 1 1, .slice A2 1 1] 45)).alloc (.cells #[.int .i64 120, .int .i64 0] 59)) ((w2.alloc (.cells #[.slice A1 1 1, .slice A2 1 1] 45)).alloc (.cells #[.int .i64 120, .int .i64 0] 59)).heap.size (some ⟨w2.heap.size, 0, none⟩) exA.mat := sets_blk2 (s1 := [(97, 97)]) (s2 := [(98, 98)]) ((Blk.new w2 45 _).alloc _) rfl (by omega) (by simp [maxLen]) (HR1'.out.below hb0).lt rfl (by omega) (by simp [maxLen]) (HR2.out.below hb0).lt
    have hp0 := (Blk.new (w2.alloc (.cells #[.slice A1 1 1, .slice A2 1 1] 45)) 59 #[.int .i64 120, .int .i64 0]).row (vs := prs exA.res) rfl
    rw [World.size_alloc w2] at hp0
    obtain ⟨v, hv⟩ : ∃ v, (w2.alloc (.cells #[.slice A1 1 1, .slice A2 1 1] 45)).alloc (.cells #[.int .i64 120, .int .i64 0] 59) = v := ⟨_, rfl⟩
    have hsz : v.heap.size = w2.heap.size + 1 + 1 := by rw [← hv]; simp
    rw [hv] at hb0 hs0 hp0 ⊢
    have hb1 : Below v.heap.size v (v.alloc (.cells #[.slice none 0 0, .slice (some ⟨w2.heap.size, 0, none⟩) 2 2, .slice none 0 0, .slice (some ⟨w2.heap.size + 1, 0, none⟩) 1 1] 41)) := (Below.refl _ _).alloc (Nat.le_refl _) _
    refine ⟨_, rfl, HB2.out.trans ((hb0.trans (hb1.mono (by omega))).mono HB2.out.size), ?_⟩
    have hk := Blk.new v 41 #[.slice none 0 0, .slice (some ⟨w2.heap.size, 0, none⟩) 2 2, .slice none 0 0, .slice (some ⟨w2.heap.size + 1, 0, none⟩) 1 1]
    rw [hsz] at hk
    exact rules_blk1 hk (rule_of rfl rfl (hs0.lt.below hb1).lt (hp0.lt.below hb1).lt rfl (by omega) (by simp [maxLen]) rfl (by omega) (by simp [maxLen]))
  rw [← h3]
  obtain ⟨ga, hga⟩ : ∃ g, g = w2.heap.size + 1 + 1 := ⟨_, rfl⟩
  rw [← hga] at HRL ⊢
  clear h3 hga HR1' HR2 HB2
  refine (new_any (some ⟨ga, 0, none⟩) 1 [exA] w3 HRL.out exA_sm (fun r hr => by simp at hr; subst hr; simp [exA]) (by simp) (by simp [maxLen]) (by simp)).mono ?_
  rintro e w4 ⟨hb4, hnew⟩
  rcases hnew with ⟨h0, _⟩ | ⟨_, gs, B1, cr, Ar, rfl, g1, g2, g3, g4, g5, g6, g7⟩
  · exact absurd exA_chk h0
  rw [exA_reach.1, exA_reach.2] at g6
  have HB4 := Lib.hid (HB3.out.trans (hb4.mono HB3.out.size))
  have HS4 : Hid (StrAt w4 (fun y => y = gs) (fun _ => False) w3.heap.size gs [exA] 0 2 [] 0) := str_new g1 g2 g3 g4 g5 g6 g7 (fun _ h => h.elim)
  clear hb4 g2 g3 g4 g5 g6 g7 HRL
  go_wp2_with fail
  obtain ⟨w5, h5, HB5, HBL5, HT5⟩ : ∃ v, v = w4.alloc (.cells #[.int .i64 97] 3) ∧ Hid (Below w.heap.size w v) ∧ Hid (Below w4.heap.size w4 v) ∧ Hid (Row v v.heap.size (some ⟨w4.heap.size, 0, none⟩) (ints [97])) := ⟨_, rfl, HB4.out.alloc HB4.out.size _, (Below.refl _ _).alloc (Nat.le_refl _) _, ints_row1 _⟩
  rw [← h5]
  clear h5
  have HS5 := Lib.hid (HS4.out.keep HBL5.out.size (fun b hb _ => HBL5.out.block b hb))
  have hs3 := HB3.out.size
  refine (write_any _ (fun _ => False) w3.heap.size gs [exA] 0 2 [] [97] 0 (some ⟨w4.heap.size, 0, none⟩) 1 w5 HS5.out (fun _ h => h.elim) exA_ok HT5.out (by simp) ([], 0) exA_st1).mono ?_
  rintro e w6 ⟨A6, c6, Y6, rfl, _, _, _, hs6, hst6⟩
  have HS6 := Lib.hid hs6
  have HB6 := Lib.hid (HB5.out.trans (hst6.1.mono hs3))
  clear hs6 hst6
  go_wp2_with fail
  obtain ⟨w7, h7, HB7, HBL7, HT7⟩ : ∃ v, v = w6.alloc (.cells #[.int .i64 99] 3) ∧ Hid (Below w.heap.size w v) ∧ Hid (Below w6.heap.size w6 v) ∧ Hid (Row v v.heap.size (some ⟨w6.heap.size, 0, none⟩) (ints [99])) := ⟨_, rfl, HB6.out.alloc HB6.out.size _, (Below.refl _ _).alloc (Nat.le_refl _) _, ints_row1 _⟩
  rw [← h7]
  clear h7
  have HS7 := Lib.hid (HS6.out.keep HBL7.out.size (fun b hb _ => HBL7.out.block b hb))
  refine (write_any Y6 (fun _ => False) w3.heap.size gs [exA] 0 2 [97] [99] 0 (some ⟨w6.heap.size, 0, none⟩) 1 w7 HS7.out (fun _ h => h.elim) exA_ok HT7.out (by simp) ([97], 1) exA_st2).mono ?_
  rintro e w8 ⟨A8, c8, Y8, rfl, z1, z2, hr8, hs8, hst8⟩
  have HS8 := Lib.hid hs8
  have HR8 := Lib.hid hr8
  have HZ8 := Lib.hid (And.intro z1 z2)
  have HB8 := Lib.hid (HB7.out.trans (hst8.1.mono hs3))
  have OW8 := Lib.hid hs8.own
  have HGY : Hid (Y8 gs) := by
    obtain ⟨_, _, _, _, _, _, _, _, _, _, _, _, _, _, _, _, _, _, h14⟩ := hs8
    exact (h14 gs).2 (.inl rfl)
  clear hs8 hst8 hr8 z1 z2
  go_wp2_with fail
  refine (close_any Y8 (fun _ => False) w3.heap.size gs [exA] 0 2 ([97] ++ [99]) 1 w8 HS8.out exA_ok (by simp) [99] exA_out).mono ?_
  rintro e w9 ⟨A9, c9, rfl, z1, z2, hr9, hg9, hb9, hf9⟩
  have HB9 := Lib.hid (HB8.out.trans (hb9.mono hs3))
  have HR9 := Lib.hid hr9.of_era
  have HG9 := Lib.hid hg9
  have HR89 : Hid (Row w9 w8.heap.size A8 (ints [97])) := (HR8.out.era_keep (E' := fun x => x = gs) (fun x hx hE => hf9.2 x hx (fun e => hE (.inr (e ▸ HGY.out)))) (fun x _ h => .inr (h ▸ HGY.out))).of_era
  have HZ9 := Lib.hid (And.intro z1 z2)
  have hs9 := hf9.size
  clear hr9 hg9 hb9 hf9 z1 z2
  go_wp2_with fail
  refine (write_shut gs _ none 0 0 w9 HG9.out rfl).mono ?_
  rintro e wa ⟨rfl, hba⟩
  have HBa := Lib.hid (HB9.out.trans (hba.mono HB9.out.size))
  have HR8a := Lib.hid ((HR89.out.more hs9).below hba).lt
  have HR9a := Lib.hid (HR9.out.below hba).lt
  clear hba
  go_wp2_with fail
  obtain ⟨wb, hb, HBb, HRb, HTb, HR9b⟩ : ∃ v, v = wa.alloc (.cells #[.int .i64 97] 3) ∧ Hid (Below w.heap.size w v) ∧ Hid (Row v v.heap.size A8 (ints [97])) ∧ Hid (Row v v.heap.size (some ⟨wa.heap.size, 0, none⟩) (ints [97])) ∧ Hid (Row v v.heap.size A9 (ints [99])) :=
    ⟨_, rfl, HBa.out.alloc HBa.out.size _, (HR8a.out.below ((Below.refl _ _).alloc (Nat.le_refl _) _)).lt, ints_row1 _, (HR9a.out.below ((Below.refl _ _).alloc (Nat.le_refl _) _)).lt⟩
  rw [← hb]
  clear hb
  refine (requal_v A8 (some ⟨wa.heap.size, 0, none⟩) c8 1 _ 1 1 [97] [97] wb HRb.out HTb.out rfl rfl (by simp [maxLen]) (by simp [maxLen]) true (by simp)).mono ?_
  rintro e wc ⟨rfl, hbc⟩
  have HBc := Lib.hid (HBb.out.trans (hbc.mono HBb.out.size))
  have HR9c := Lib.hid (HR9b.out.below hbc).lt
  clear hbc
  go_wp2_with fail
  obtain ⟨wd, hd, HBd, HRd, HTd⟩ : ∃ v, v = wc.alloc (.cells #[.int .i64 99] 3) ∧ Hid (Below w.heap.size w v) ∧ Hid (Row v v.heap.size A9 (ints [99])) ∧ Hid (Row v v.heap.size (some ⟨wc.heap.size, 0, none⟩) (ints [99])) :=
    ⟨_, rfl, HBc.out.alloc HBc.out.size _, (HR9c.out.below ((Below.refl _ _).alloc (Nat.le_refl _) _)).lt, ints_row1 _⟩
  rw [← hd]
  clear hd
  refine (requal_v A9 (some ⟨wc.heap.size, 0, none⟩) c9 1 _ 1 1 [99] [99] wd HRd.out HTd.out rfl rfl (by simp [maxLen]) (by simp [maxLen]) true (by simp)).mono ?_
  rintro e we ⟨rfl, hbe⟩
  have HBe := Lib.hid (HBd.out.trans (hbe.mono HBd.out.size))
  clear hbe
  go_wp2
  go_ret
  exact ⟨rfl, HBe.out⟩
end Go.Proofs.Ytjohoohdjlajcaa
