/-
  edits.joined, ref53.join, slices.Clone: lists joined in new memory.
-/
import Derived.Test.YtmiebgejmiadlaaProg
import Derived.Test.YtmiebgejmiadlaaBase
import Derived.WalkKit
import Derived.WalkSpells
import Derived.OwnWalk
import Derived.Laws.CopyOwn
import Derived.KernelRfl
import Derived.Outline
namespace Go.Proofs.Ytmiebgejmiadlaa
open Go.RowKit Go.UtYtmiebgejmiadlaa
attribute [local go_sem high] cut_l cut_lh cut_lhm cutA_zero
attribute [local go_sem 500] cut_any
/-- the call returns a slice that reads as xs; nothing older has changed -/
def RetInts (w : World) (xs : List Int) (e : Ending) (w' : World) : Prop :=
  ∃ A c, e = .returned (.slice A xs.length c) ∧ xs.length ≤ c ∧ c ≤ maxLen ∧ Row w' w'.heap.size A (ints xs) ∧ NewAt w.heap.size A ∧ Below w.heap.size w w'
theorem int_info : (Try.prog.info? 3).map (fun i => (i.zero, i.size, i.bytes)) = some (some (.int .i64 0), 1, 8) := by kernel_rfl
theorem int_size : (Try.prog.info? 3).map (·.size) = some 1 := by kernel_rfl
set_option maxHeartbeats 1000000 in
theorem join_any (A1 A2 A3 : Option Addr) (c1 c2 c3 B : Nat) (xs ys zs : List Int) (w : World) (h1 : Row w B A1 (ints xs)) (h2 : Row w B A2 (ints ys)) (h3 : Row w B A3 (ints zs)) (hB : B ≤ w.heap.size)
    (hl : xs.length + ys.length + zs.length ≤ 65536) :
    Calls Try.prog 29 #[.slice A1 xs.length c1, .slice A2 ys.length c2, .slice A3 zs.length c3] w (RetInts w (xs ++ ys ++ zs)) := by
  obtain ⟨i0, hi0, hz0, hz1, hz2⟩ := info_parts int_info
  have H1 := Lib.hid h1
  have H2 := Lib.hid h2
  have H3 := Lib.hid h3
  clear h1 h2 h3
  have hk : w.heap.size ≤ w.heap.size := Nat.le_refl _
  go_enter Try.func29, Try.ntmps29
  go_wp2_with (first
    | (at_builtin
       refine wpList_append_row _ rfl (.tmp 8) (.tmp 9) _ rfl w.heap.size 3 i0 _ 1 8 Try.underlying22 hi0 hz0 hz1 hz2 rfl (by omega) (.slice none 0 0) 0 [] rfl
         (own_nil w) B A1 xs.length c1 (ints xs) rfl (by simp [ints_len]) H1.out (ints_one _) (by simp only [maxLen]; omega) (by omega) hk ?_
       intro v1 w1 hown1 hg1 hat1
       have hb1 : Hid (Below w.heap.size w w1) := (Below.refl _ _).grown hg1 hk (by simp [Value.ownBlock])
       have ho1 := Lib.hid hown1
       have ht1 := Lib.hid hat1
       clear hown1 hg1 hat1)
    | (at_builtin
       refine wpList_append_row _ rfl (.tmp 11) (.tmp 12) _ rfl w.heap.size 3 i0 _ 1 8 Try.underlying22 hi0 hz0 hz1 hz2 rfl (by omega) v1 (0 + xs.length) ([] ++ ints xs) rfl
         ho1.out B A2 ys.length c2 (ints ys) rfl (by simp [ints_len]) (H2.out.below (hb1.out.mono hB)) (ints_one _) (by simp only [maxLen]; omega) (by omega) hb1.out.size ?_
       intro v2 w2 hown2 hg2 hat2
       have hb2 : Hid (Below w.heap.size w w2) := hb1.out.grown hg2 hb1.out.size (fun g hg => own_base ho1.out g hg)
       have ho2 := Lib.hid hown2
       clear hown2 hg2 hat2)
    | (at_builtin
       refine wpList_append_row _ rfl (.tmp 14) (.tmp 15) _ rfl w.heap.size 3 i0 _ 1 8 Try.underlying22 hi0 hz0 hz1 hz2 rfl (by omega) v2 (0 + xs.length + ys.length) ([] ++ ints xs ++ ints ys) rfl
         ho2.out B A3 zs.length c3 (ints zs) rfl (by simp [ints_len]) (H3.out.below (hb2.out.mono hB)) (ints_one _) (by simp only [maxLen]; omega) (by omega) hb2.out.size ?_
       intro v3 w3 hown3 hg3 hat3
       have hb3 : Hid (Below w.heap.size w w3) := hb2.out.grown hg3 hb2.out.size (fun g hg => own_base ho2.out g hg)
       have ho3 := Lib.hid hown3
       clear hown3 hg3 hat3))
  go_ret
  obtain ⟨A, c, hv, hc1, hc2, hr⟩ := own_row ho3.out
  have e1 : 0 + xs.length + ys.length + zs.length = (xs ++ ys ++ zs).length := by simp; omega
  rw [e1] at hv hc1
  refine ⟨A, c, by rw [← hv]; rfl, hc1, hc2, ?_, own_new (hv ▸ e1 ▸ ho3.out), hb3.out⟩
  rw [ints_append, ints_append]
  simpa using hr
set_option maxHeartbeats 1000000 in
theorem joined_any (A1 A2 A3 : Option Addr) (c1 c2 c3 B : Nat) (xs ys zs : List Int) (w : World) (h1 : Row w B A1 (ints xs)) (h2 : Row w B A2 (ints ys)) (h3 : Row w B A3 (ints zs)) (hB : B ≤ w.heap.size)
    (hl : xs.length + ys.length + zs.length ≤ 65536) :
    Calls Try.prog 30 #[.slice A1 xs.length c1, .slice A2 ys.length c2, .slice A3 zs.length c3] w (RetInts w (xs ++ ys ++ zs)) := by
  obtain ⟨i0, hi0, hz0, hz1, hz2⟩ := info_parts int_info
  have H1 := Lib.hid h1
  have H2 := Lib.hid h2
  have H3 := Lib.hid h3
  clear h1 h2 h3
  have hk : w.heap.size ≤ w.heap.size := Nat.le_refl _
  go_enter Try.func30, Try.ntmps30
  go_wp2_with (first
    | (at_make
       refine wpList_make_block _ rfl _ _ 22 rfl 3 i0 _ Try.underlying22 hi0 hz0 hz1 _ _ _ _ (xs.length + ys.length + zs.length) rfl rfl (by omega) (by omega) (by rw [hz2]; omega) (by simp only [maxLen]; omega) ?_
       intro w1 z hzl hz hlt1 hb1
       have HZ := Lib.hid hzl
       clear hzl))
  obtain ⟨w2, hrun, hg2, hb2⟩ := run_copy_into (P := Try.prog) (w := w1) 22 3 3 Try.underlying22 int_size w.heap.size 0 (some ⟨w.heap.size, 0, none⟩) (xs.length + ys.length + zs.length) (xs.length + ys.length + zs.length) (fun _ => rfl)
    B A1 xs.length c1 (ints xs) (ints_len _) (H1.out.below (hb1.out.mono hB)) (by omega) z hz.out (by rw [HZ.out]; omega) (ints_one _) w.heap.size w hb1.out hk
  have hl2 : (splice z 0 (ints xs)).length = xs.length + ys.length + zs.length := by rw [length_splice _ _ _ (by rw [ints_len, HZ.out]; omega), HZ.out]
  have HL2 := Lib.hid hl2
  rw [hrun]
  clear hrun hl2 hb1 hz hlt1
  go_wp2_with fail
  obtain ⟨w3, hrun, hg3, hb3⟩ := run_copy_into (P := Try.prog) (w := w2) 22 3 3 Try.underlying22 int_size w.heap.size xs.length (cutA (some ⟨w.heap.size, 0, none⟩) (xs.length + ys.length + zs.length) xs.length 1) (xs.length + ys.length + zs.length - xs.length) (xs.length + ys.length + zs.length - xs.length)
    (fun h => cutA_some0 (by omega))
    B A2 ys.length c2 (ints ys) (ints_len _) (H2.out.below (hb2.out.mono hB)) (by omega) _ hg2.out (by rw [HL2.out]; omega) (ints_one _) w.heap.size w hb2.out hk
  have HL3 : Hid ((splice (splice z 0 (ints xs)) xs.length (ints ys)).length = xs.length + ys.length + zs.length) := by
    show _ = _
    rw [length_splice _ _ _ (by rw [ints_len, HL2.out]; omega), HL2.out]
  rw [hrun]
  clear hrun hb2 hg2
  go_wp2_with fail
  obtain ⟨w4, hrun, hg4, hb4⟩ := run_copy_into (P := Try.prog) (w := w3) 22 3 3 Try.underlying22 int_size w.heap.size (xs.length + ys.length) (cutA (some ⟨w.heap.size, 0, none⟩) (xs.length + ys.length + zs.length) (xs.length + ys.length) 1) zs.length zs.length
    (fun h => cutA_some0 (by omega))
    B A3 zs.length c3 (ints zs) (ints_len _) (H3.out.below (hb3.out.mono hB)) (by omega) _ hg3.out (by rw [HL3.out]; omega) (ints_one _) w.heap.size w hb3.out hk
  rw [hrun]
  clear hrun hb3 hg3
  go_wp2_with fail
  go_ret
  have hfin := hg4.out
  have e3 : splice (splice (splice z 0 (ints xs)) xs.length (ints ys)) (xs.length + ys.length) (ints zs) = ints xs ++ ints ys ++ ints zs := by
    have := splice_three z (ints xs) (ints ys) (ints zs) (by rw [ints_len, ints_len, ints_len, HZ.out])
    rw [ints_len, ints_len] at this
    exact this
  rw [e3] at hfin
  refine ⟨some ⟨w.heap.size, 0, none⟩, xs.length + ys.length + zs.length, ?_, by simp; omega, by simp only [maxLen]; omega, ?_, NewAt.at_ (Nat.le_refl _), hb4.out⟩
  · simp [Nat.add_assoc]
  · rw [ints_append, ints_append]
    exact Row.of_block hfin (fun k v h => by simpa using h)
set_option maxHeartbeats 1000000 in
theorem clone_any (A1 : Option Addr) (c1 B : Nat) (xs : List Int) (w : World) (h1 : Row w B A1 (ints xs)) (hB : B ≤ w.heap.size) (hl : xs.length ≤ 65536) :
    Calls Try.prog 28 #[.slice A1 xs.length c1] w (RetInts w xs) := by
  obtain ⟨i0, hi0, hz0, hz1, hz2⟩ := info_parts int_info
  have H1 := Lib.hid h1
  cases A1 with
  | none =>
    have hx : xs = [] := Classical.byContradiction fun h => by
      obtain ⟨_, _, h', _⟩ := h1 (fun e => h (by simpa [ints] using e))
      cases h'
    subst hx
    have hnil := Lib.run_eql_slice_nil (P := Try.prog) w 22 3 none 0 c1 0 0 Try.underlying22
    go_enter Try.func28, Try.ntmps28
    go_wp2_with fail
    go_ret
    exact ⟨none, 0, rfl, Nat.le_refl _, by simp [maxLen], Row.nil, NewAt.none_, Below.refl _ _⟩
  | some ad =>
    have hnil := Lib.run_eql_slice_nil (P := Try.prog) w 22 3 (some ad) xs.length c1 0 0 Try.underlying22
    have hbs : ∀ W : World, (Instr.buildSlice 22 0 #[]).run Try.prog W = .ok (.slice (some ⟨W.heap.size, 0, none⟩) 0 0) (W.alloc (.cells #[] 3)) := fun W => by kernel_rfl
    clear h1
    go_enter Try.func28, Try.ntmps28
    go_wp2_with (first
      | (at_builtin
         refine wpList_append_row _ rfl (.tmp 5) (.tmp 6) _ rfl w.heap.size 3 i0 _ 1 8 Try.underlying22 hi0 hz0 hz1 hz2 rfl (by omega) (.slice (some ⟨w.heap.size, 0, none⟩) 0 0) 0 [] rfl
           ⟨by simp, .inr ⟨w.heap.size, 0, #[], rfl, Nat.le_refl _, heap_alloc_new _ _, by omega, by simp [maxLen], by simp, by simp⟩⟩ B (some ad) xs.length c1 (ints xs) rfl (by simp [ints_len]) (H1.out.below ((Below.refl _ _).alloc hB _)) (ints_one _) (by simp only [maxLen]; omega) (by omega) (by simp) ?_
         intro v1 w1 hown1 hg1 hat1
         have hb1 : Hid (Below w.heap.size w w1) := ((Below.refl _ _).alloc (Nat.le_refl _) _).grown hg1 (by simp) (by simp [Value.ownBlock])
         have ho1 := Lib.hid hown1
         clear hown1 hg1 hat1))
    go_ret
    obtain ⟨A, c, hv, hc1, hc2, hr⟩ := own_row ho1.out
    rw [Nat.zero_add] at hv hc1
    exact ⟨A, c, by rw [← hv]; rfl, hc1, hc2, by simpa using hr, own_new (hv ▸ (Nat.zero_add xs.length) ▸ ho1.out), hb1.out⟩
theorem join_n (A1 A2 A3 : Option Addr) (c1 c2 c3 B : Nat) (xs ys zs r : List Int) (w : World) (n1 n2 n3 : Nat) (e1 : xs.length = n1) (e2 : ys.length = n2) (e3 : zs.length = n3) (er : xs ++ ys ++ zs = r)
    (h1 : Row w B A1 (ints xs)) (h2 : Row w B A2 (ints ys)) (h3 : Row w B A3 (ints zs)) (hB : B ≤ w.heap.size) (hl : n1 + n2 + n3 ≤ 65536) :
    Calls Try.prog 29 #[.slice A1 n1 c1, .slice A2 n2 c2, .slice A3 n3 c3] w (RetInts w r) := by
  subst e1 e2 e3 er
  exact join_any A1 A2 A3 c1 c2 c3 B xs ys zs w h1 h2 h3 hB hl
theorem joined_n (A1 A2 A3 : Option Addr) (c1 c2 c3 B : Nat) (xs ys zs r : List Int) (w : World) (n1 n2 n3 : Nat) (e1 : xs.length = n1) (e2 : ys.length = n2) (e3 : zs.length = n3) (er : xs ++ ys ++ zs = r)
    (h1 : Row w B A1 (ints xs)) (h2 : Row w B A2 (ints ys)) (h3 : Row w B A3 (ints zs)) (hB : B ≤ w.heap.size) (hl : n1 + n2 + n3 ≤ 65536) :
    Calls Try.prog 30 #[.slice A1 n1 c1, .slice A2 n2 c2, .slice A3 n3 c3] w (RetInts w r) := by
  subst e1 e2 e3 er
  exact joined_any A1 A2 A3 c1 c2 c3 B xs ys zs w h1 h2 h3 hB hl
theorem clone_n (A1 : Option Addr) (c1 B : Nat) (xs : List Int) (w : World) (n1 : Nat) (e1 : xs.length = n1) (h1 : Row w B A1 (ints xs)) (hB : B ≤ w.heap.size) (hl : n1 ≤ 65536) :
    Calls Try.prog 28 #[.slice A1 n1 c1] w (RetInts w xs) := by
  subst e1
  exact clone_any A1 c1 B xs w h1 hB hl
end Go.Proofs.Ytmiebgejmiadlaa
