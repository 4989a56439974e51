/-
  law31.divided, few.
-/
import Derived.Test.YtkoojoogddndnaaBo1
namespace Go.Proofs.Ytkoojoogddndnaa
open Go.RowKit Go.UtYtkoojoogddndnaa
set_option maxRecDepth 100000 in
set_option maxHeartbeats 2000000 in
theorem divided_any (w : World) : Calls Try.prog 35 #[] w fun e w' => ∃ x : TA, e = .returned (x.val exT) ∧ TabAt w' w'.heap.size x exT ∧ Below w.heap.size w w' := by
  go_enter Try.func35, Try.ntmps35
  go_upto_region 1 with fail
  obtain ⟨w1, hw1, HB1, HK1⟩ := boxV w 28 #[.slice none 0 0, .slice none 0 0, .slice none 0 0, .slice none 0 0, .slice none 0 0, .slice none 0 0]
  have hz1 : w1.heap.size = w.heap.size + 1 := by rw [hw1]; simp
  rw [← hw1]
  clear hw1
  go_upto_region 2 with fail
  have hA := autW_at (v := w1) (s := w.heap.size + 1) hz1 1 0 1 0 0
  have hz2 := autW_size (v := w1) (s := w.heap.size + 1) 1 0 1 0 0
  obtain ⟨w2, hw2⟩ : ∃ u, autW w1 (w.heap.size + 1) 1 0 1 0 0 = u := ⟨_, rfl⟩
  rw [hw2, hz1] at hz2
  rw [hw2] at hA
  unfold autW at hw2
  rw [hw2]
  have HA := Lib.hid hA
  clear hA hw2
  go_upto_region 3 with fail
  obtain ⟨s2, hs2⟩ : ∃ s, s = w.heap.size + 1 + 1 + 1 + 1 + 1 + 1 + 1 := ⟨_, rfl⟩
  rw [← hs2] at hz2 ⊢
  have hl2 : w.heap.size + 1 + 1 + 1 + 1 + 1 + 1 < s2 := by omega
  clear hs2
  have hB := autW_at (v := w2) (s := s2) hz2 0 1 0 1 0
  have hz3 := autW_size (v := w2) (s := s2) 0 1 0 1 0
  obtain ⟨w3, hw3⟩ : ∃ u, autW w2 s2 0 1 0 1 0 = u := ⟨_, rfl⟩
  rw [hw3, hz2] at hz3
  rw [hw3] at hB
  unfold autW at hw3
  rw [hw3]
  have HB := Lib.hid hB
  clear hB hw3
  obtain ⟨w4, hw4⟩ : ∃ u, u = (w3.alloc (.cells #[.string ⟨#[65]⟩, .string ⟨#[66]⟩] 9)).alloc (.cells #[.int .i64 1] 3) := ⟨_, rfl⟩
  obtain ⟨s3, hs3⟩ : ∃ s, s = s2 + 1 + 1 + 1 + 1 + 1 + 1 := ⟨_, rfl⟩
  rw [← hs3] at hz3
  have hl3 : s2 + 1 + 1 + 1 + 1 + 1 < s3 := by omega
  clear hs3
  have HB34 : Below w3.heap.size w3 w4 := by rw [hw4]; exact ((Below.refl _ _).alloc (Nat.le_refl _) _).alloc (by simp) _
  have HS : Blk w4 s3 9 #[.string ⟨#[65]⟩, .string ⟨#[66]⟩] := by
    rw [hw4]
    have := (Blk.new w3 9 #[.string ⟨#[65]⟩, .string ⟨#[66]⟩]).alloc (.cells #[.int .i64 1] 3)
    rwa [hz3] at this
  have HI : Blk w4 (s3 + 1) 3 #[.int .i64 1] := by
    rw [hw4]
    have := Blk.new (w3.alloc (.cells #[.string ⟨#[65]⟩, .string ⟨#[66]⟩] 9)) 3 #[.int .i64 1]
    rw [World.size_alloc, hz3] at this
    exact this
  have hz4 : w4.heap.size = s3 + 1 + 1 := by rw [hw4]; simp [hz3]
  have HB23 : Below w2.heap.size w2 w3 := by rw [hz2]; exact HB.out.1
  have HB12 : Below w1.heap.size w1 w2 := by rw [hz1]; exact HA.out.1
  have HB14 : Below w1.heap.size w1 w4 := HB12.trans ((HB23.trans (HB34.mono HB23.size)).mono HB12.size)
  have HBW4 : Below w.heap.size w w4 := HB1.out.trans (HB14.mono (by omega))
  have HK4 := HK1.out.after HB14
  have HB24 : Below w2.heap.size w2 w4 := HB23.trans (HB34.mono HB23.size)
  have l0 := HA.out.2.2.after HB23
  have l1 := HB.out.2.2
  have e0 := l0.cell 0
  have e1 := l0.cell 1
  have e2 := l1.cell 0
  have e3 := l1.cell 1
  have k0 := l0.lt
  have k1 := l1.lt
  simp at e0 e1 e2 e3
  have k2 := k0
  have k3 := k1
  rw [hz3] at k0 k1
  have m0 := (l0.after HB34).cell 0
  have m1 := (l0.after HB34).cell 1
  have m2 := (l1.after HB34).cell 0
  have m3 := (l1.after HB34).cell 1
  simp only [List.getElem?_toArray, List.getElem?_cons_zero, List.getElem?_cons_succ] at m0 m1 m2 m3
  rw [hw4] at m0 m1 m2 m3
  obtain ⟨n0, n1, n2, n3, n4, n5, nl⟩ := (show _ ∧ _ ∧ _ ∧ _ ∧ _ ∧ _ ∧ _ from ⟨HK4.cell 0, HK4.cell 1, HK4.cell 2, HK4.cell 3, HK4.cell 4, HK4.cell 5, HK4.lt⟩)
  obtain ⟨o0, o1, o2, o3, o4, o5⟩ := (show _ ∧ _ ∧ _ ∧ _ ∧ _ ∧ _ from ⟨HK4.free 0, HK4.free 1, HK4.free 2, HK4.free 3, HK4.free 4, HK4.free 5⟩)
  simp only [List.getElem?_toArray, List.getElem?_cons_zero, List.getElem?_cons_succ] at n0 n1 n2 n3 n4 n5
  rw [hw4] at n0 n1 n2 n3 n4 n5 o0 o1 o2 o3 o4 o5
  have j0 : ¬ w.heap.size + 1 + 1 + 1 + 1 + 1 + 1 = s3 := by omega
  have j1 : ¬ s2 + 1 + 1 + 1 + 1 + 1 = s3 := by omega
  have j2 : ¬ w.heap.size + 1 + 1 + 1 + 1 + 1 + 1 = s3 + 1 := by omega
  have j3 : ¬ s2 + 1 + 1 + 1 + 1 + 1 = s3 + 1 := by omega
  obtain ⟨x, hx⟩ : ∃ x : TA, x = ⟨some ⟨s3, 0, none⟩, some ⟨s3 + 1, 0, none⟩, some ⟨w.heap.size + 1 + 1 + 1, 0, none⟩, some ⟨w.heap.size + 1 + 1 + 1 + 1 + 1, 0, none⟩, some ⟨s2 + 1 + 1, 0, none⟩, some ⟨s2 + 1 + 1 + 1 + 1, 0, none⟩, 2, 1, 2, 2, 2, 2⟩ := ⟨_, rfl⟩
  obtain ⟨w5, hw5⟩ : ∃ u, u = (((((w4.setCell ⟨w.heap.size, 0, none⟩ (.slice (some ⟨s3, 0, none⟩) 2 2)).setCell ⟨w.heap.size, 1, none⟩ (.slice (some ⟨s3 + 1, 0, none⟩) 1 1)).setCell ⟨w.heap.size, 2, none⟩ (.slice (some ⟨w.heap.size + 1 + 1 + 1, 0, none⟩) 2 2)).setCell ⟨w.heap.size, 3, none⟩ (.slice (some ⟨w.heap.size + 1 + 1 + 1 + 1 + 1, 0, none⟩) 2 2)).setCell ⟨w.heap.size, 4, none⟩ (.slice (some ⟨s2 + 1 + 1, 0, none⟩) 2 2)).setCell ⟨w.heap.size, 5, none⟩ (.slice (some ⟨s2 + 1 + 1 + 1 + 1, 0, none⟩) 2 2) := ⟨_, rfl⟩
  have HK5 : Hid (Blk w5 w.heap.size 28 (x.cs exT)) := Lib.hid (by
    rw [hw5, hx]
    have := (((((HK4.set_ 0 (.slice (some ⟨s3, 0, none⟩) 2 2)).set_ 1 (.slice (some ⟨s3 + 1, 0, none⟩) 1 1)).set_ 2 (.slice (some ⟨w.heap.size + 1 + 1 + 1, 0, none⟩) 2 2)).set_ 3 (.slice (some ⟨w.heap.size + 1 + 1 + 1 + 1 + 1, 0, none⟩) 2 2)).set_ 4 (.slice (some ⟨s2 + 1 + 1, 0, none⟩) 2 2)).set_ 5 (.slice (some ⟨s2 + 1 + 1 + 1 + 1, 0, none⟩) 2 2)
    simpa [TA.cs, exT] using this)
  have HBW5 : Hid (Below w.heap.size w w5) := Lib.hid (by
    rw [hw5]
    exact (((((HBW4.setCell (p := ⟨w.heap.size, 0, none⟩) (Nat.le_refl _) _).setCell (p := ⟨w.heap.size, 1, none⟩) (Nat.le_refl _) _).setCell (p := ⟨w.heap.size, 2, none⟩) (Nat.le_refl _) _).setCell (p := ⟨w.heap.size, 3, none⟩) (Nat.le_refl _) _).setCell (p := ⟨w.heap.size, 4, none⟩) (Nat.le_refl _) _).setCell (p := ⟨w.heap.size, 5, none⟩) (Nat.le_refl _) _)
  go_wp2
  rw [← hw4, ← hw5]
  have hz5 : w5.heap.size = s3 + 1 + 1 := by rw [hw5]; simp [hz4]
  have hk5 : ∀ k, w.heap.size < k → w5.heap[k]? = w4.heap[k]? := fun k hk => by
    rw [hw5]
    refine (Below.heap_setCell _ _ _ k (by simp; omega)).trans ((Below.heap_setCell _ _ _ k (by simp; omega)).trans ((Below.heap_setCell _ _ _ k (by simp; omega)).trans ((Below.heap_setCell _ _ _ k (by simp; omega)).trans ((Below.heap_setCell _ _ _ k (by simp; omega)).trans (Below.heap_setCell _ _ _ k (by simp; omega))))))
  have HT5 : TabAt w5 w5.heap.size x exT := by
    rw [hx, hz5]
    refine ⟨⟨⟨(show Blk w5 s3 _ _ from (hk5 _ (by omega)).trans HS).rowB rfl (by omega), by intro s hs; simp [exT] at hs; rcases hs with rfl | rfl <;> simp [maxLen]⟩, by simp [exT], by simp [maxLen]⟩, ⟨(show Blk w5 (s3 + 1) _ _ from (hk5 _ (by omega)).trans HI).rowB rfl (by omega), by simp [exT], by simp [maxLen]⟩, ?_, ?_⟩
    · exact HA.out.2.1 w5 _ (by omega) (fun k h1 h2 => (hk5 k (by omega)).trans (HB24.block k (by omega)))
    · exact HB.out.2.1 w5 _ (by omega) (fun k h1 h2 => (hk5 k (by omega)).trans (HB34.block k (by omega)))
  have HT6 := Lib.hid HT5
  obtain ⟨y0, y1, y2, y3, y4, y5, yl⟩ := tab6 HK5.out
  clear HT5 hk5 HA HB HS HI HB34 HB23 HB12 HB14 HB24 HBW4 HK4 hw4 hw5 n0 n1 n2 n3 n4 n5 nl o0 o1 o2 o3 o4 o5 m0 m1 m2 m3 e0 e1 e2 e3 k0 k1 k2 k3 hx
  refine bodyPost_ret (v := x.val exT) ?_ rfl ⟨x, rfl, HT6.out, HBW5.out⟩
  simp [results, Try.results35, go_sem, y0, y1, y2, y3, y4, y5, TA.val]
end Go.Proofs.Ytkoojoogddndnaa
