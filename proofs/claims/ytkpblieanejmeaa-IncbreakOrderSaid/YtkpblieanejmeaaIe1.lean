/-
  law54.divided.
  law54.alive.
-/
import Derived.Test.YtkpblieanejmeaaBo1
import Derived.Test.YtkpblieanejmeaaId1
import Derived.Test.YtkpblieanejmeaaIc7
import Derived.Test.YtkpblieanejmeaaRef1
import Derived.ChangeKeysEq
namespace Go.Proofs.Ytkpblieanejmeaa
open Go.RowKit Go.UtYtkpblieanejmeaa
set_option maxRecDepth 100000 in
set_option maxHeartbeats 2000000 in
theorem div54_any (w : World) : Calls Try.prog 33 #[] w fun e w' => ∃ x : TA, e = .returned (x.val exT) ∧ TabAt w' w'.heap.size x exT ∧ Below w.heap.size w w' := by
  go_enter Try.func33, Try.ntmps33
  go_upto_region 1 with fail
  obtain ⟨w1, hw1, HB1, HK1⟩ := boxV w 31 #[.slice none 0 0, .slice none 0 0, .slice none 0 0, .slice none 0 0, .slice none 0 0, .slice none 0 0]
  have hz1 : w1.heap.size = w.heap.size + 1 := by rw [hw1]; simp
  rw [← hw1]
  clear hw1
  go_upto_region 2 with fail
  have hA := autW_at (v := w1) (s := w.heap.size + 1) hz1 1 0 1 0 0
  have hz2 := autW_size (v := w1) (s := w.heap.size + 1) 1 0 1 0 0
  obtain ⟨w2, hw2⟩ : ∃ u, autW w1 (w.heap.size + 1) 1 0 1 0 0 = u := ⟨_, rfl⟩
  rw [hw2, hz1] at hz2
  rw [hw2] at hA
  unfold autW at hw2
  rw [hw2]
  have HA := Lib.hid hA
  clear hA hw2
  go_upto_region 3 with fail
  obtain ⟨s2, hs2⟩ : ∃ s, s = w.heap.size + 1 + 1 + 1 + 1 + 1 + 1 + 1 := ⟨_, rfl⟩
  rw [← hs2] at hz2 ⊢
  have hl2 : w.heap.size + 1 + 1 + 1 + 1 + 1 + 1 < s2 := by omega
  clear hs2
  have hB := autW_at (v := w2) (s := s2) hz2 0 1 0 1 0
  have hz3 := autW_size (v := w2) (s := s2) 0 1 0 1 0
  obtain ⟨w3, hw3⟩ : ∃ u, autW w2 s2 0 1 0 1 0 = u := ⟨_, rfl⟩
  rw [hw3, hz2] at hz3
  rw [hw3] at hB
  unfold autW at hw3
  rw [hw3]
  have HB := Lib.hid hB
  clear hB hw3
  obtain ⟨w4, hw4⟩ : ∃ u, u = (w3.alloc (.cells #[.string ⟨#[65]⟩, .string ⟨#[66]⟩] 9)).alloc (.cells #[.int .i64 1] 3) := ⟨_, rfl⟩
  obtain ⟨s3, hs3⟩ : ∃ s, s = s2 + 1 + 1 + 1 + 1 + 1 + 1 := ⟨_, rfl⟩
  rw [← hs3] at hz3
  have hl3 : s2 + 1 + 1 + 1 + 1 + 1 < s3 := by omega
  clear hs3
  have HB34 : Below w3.heap.size w3 w4 := by rw [hw4]; exact ((Below.refl _ _).alloc (Nat.le_refl _) _).alloc (by simp) _
  have HS : Blk w4 s3 9 #[.string ⟨#[65]⟩, .string ⟨#[66]⟩] := by
    rw [hw4]
    have := (Blk.new w3 9 #[.string ⟨#[65]⟩, .string ⟨#[66]⟩]).alloc (.cells #[.int .i64 1] 3)
    rwa [hz3] at this
  have HI : Blk w4 (s3 + 1) 3 #[.int .i64 1] := by
    rw [hw4]
    have := Blk.new (w3.alloc (.cells #[.string ⟨#[65]⟩, .string ⟨#[66]⟩] 9)) 3 #[.int .i64 1]
    rw [World.size_alloc, hz3] at this
    exact this
  have hz4 : w4.heap.size = s3 + 1 + 1 := by rw [hw4]; simp [hz3]
  have HB23 : Below w2.heap.size w2 w3 := by rw [hz2]; exact HB.out.1
  have HB12 : Below w1.heap.size w1 w2 := by rw [hz1]; exact HA.out.1
  have HB14 : Below w1.heap.size w1 w4 := HB12.trans ((HB23.trans (HB34.mono HB23.size)).mono HB12.size)
  have HBW4 : Below w.heap.size w w4 := HB1.out.trans (HB14.mono (by omega))
  have HK4 := HK1.out.after HB14
  have HB24 : Below w2.heap.size w2 w4 := HB23.trans (HB34.mono HB23.size)
  have l0 := HA.out.2.2.after HB23
  have l1 := HB.out.2.2
  have e0 := l0.cell 0
  have e1 := l0.cell 1
  have e2 := l1.cell 0
  have e3 := l1.cell 1
  have k0 := l0.lt
  have k1 := l1.lt
  simp at e0 e1 e2 e3
  have k2 := k0
  have k3 := k1
  rw [hz3] at k0 k1
  have m0 := (l0.after HB34).cell 0
  have m1 := (l0.after HB34).cell 1
  have m2 := (l1.after HB34).cell 0
  have m3 := (l1.after HB34).cell 1
  simp only [List.getElem?_toArray, List.getElem?_cons_zero, List.getElem?_cons_succ] at m0 m1 m2 m3
  rw [hw4] at m0 m1 m2 m3
  obtain ⟨n0, n1, n2, n3, n4, n5, nl⟩ := (show _ ∧ _ ∧ _ ∧ _ ∧ _ ∧ _ ∧ _ from ⟨HK4.cell 0, HK4.cell 1, HK4.cell 2, HK4.cell 3, HK4.cell 4, HK4.cell 5, HK4.lt⟩)
  obtain ⟨o0, o1, o2, o3, o4, o5⟩ := (show _ ∧ _ ∧ _ ∧ _ ∧ _ ∧ _ from ⟨HK4.free 0, HK4.free 1, HK4.free 2, HK4.free 3, HK4.free 4, HK4.free 5⟩)
  simp only [List.getElem?_toArray, List.getElem?_cons_zero, List.getElem?_cons_succ] at n0 n1 n2 n3 n4 n5
  rw [hw4] at n0 n1 n2 n3 n4 n5 o0 o1 o2 o3 o4 o5
  have j0 : ¬ w.heap.size + 1 + 1 + 1 + 1 + 1 + 1 = s3 := by omega
  have j1 : ¬ s2 + 1 + 1 + 1 + 1 + 1 = s3 := by omega
  have j2 : ¬ w.heap.size + 1 + 1 + 1 + 1 + 1 + 1 = s3 + 1 := by omega
  have j3 : ¬ s2 + 1 + 1 + 1 + 1 + 1 = s3 + 1 := by omega
  obtain ⟨x, hx⟩ : ∃ x : TA, x = ⟨some ⟨s3, 0, none⟩, some ⟨s3 + 1, 0, none⟩, some ⟨w.heap.size + 1 + 1 + 1, 0, none⟩, some ⟨w.heap.size + 1 + 1 + 1 + 1 + 1, 0, none⟩, some ⟨s2 + 1 + 1, 0, none⟩, some ⟨s2 + 1 + 1 + 1 + 1, 0, none⟩, 2, 1, 2, 2, 2, 2⟩ := ⟨_, rfl⟩
  obtain ⟨w5, hw5⟩ : ∃ u, u = (((((w4.setCell ⟨w.heap.size, 0, none⟩ (.slice (some ⟨s3, 0, none⟩) 2 2)).setCell ⟨w.heap.size, 1, none⟩ (.slice (some ⟨s3 + 1, 0, none⟩) 1 1)).setCell ⟨w.heap.size, 2, none⟩ (.slice (some ⟨w.heap.size + 1 + 1 + 1, 0, none⟩) 2 2)).setCell ⟨w.heap.size, 3, none⟩ (.slice (some ⟨w.heap.size + 1 + 1 + 1 + 1 + 1, 0, none⟩) 2 2)).setCell ⟨w.heap.size, 4, none⟩ (.slice (some ⟨s2 + 1 + 1, 0, none⟩) 2 2)).setCell ⟨w.heap.size, 5, none⟩ (.slice (some ⟨s2 + 1 + 1 + 1 + 1, 0, none⟩) 2 2) := ⟨_, rfl⟩
  have HK5 : Hid (Blk w5 w.heap.size 31 (x.cs exT)) := Lib.hid (by
    rw [hw5, hx]
    have := (((((HK4.set_ 0 (.slice (some ⟨s3, 0, none⟩) 2 2)).set_ 1 (.slice (some ⟨s3 + 1, 0, none⟩) 1 1)).set_ 2 (.slice (some ⟨w.heap.size + 1 + 1 + 1, 0, none⟩) 2 2)).set_ 3 (.slice (some ⟨w.heap.size + 1 + 1 + 1 + 1 + 1, 0, none⟩) 2 2)).set_ 4 (.slice (some ⟨s2 + 1 + 1, 0, none⟩) 2 2)).set_ 5 (.slice (some ⟨s2 + 1 + 1 + 1 + 1, 0, none⟩) 2 2)
    simpa [TA.cs, exT] using this)
  have HBW5 : Hid (Below w.heap.size w w5) := Lib.hid (by
    rw [hw5]
    exact (((((HBW4.setCell (p := ⟨w.heap.size, 0, none⟩) (Nat.le_refl _) _).setCell (p := ⟨w.heap.size, 1, none⟩) (Nat.le_refl _) _).setCell (p := ⟨w.heap.size, 2, none⟩) (Nat.le_refl _) _).setCell (p := ⟨w.heap.size, 3, none⟩) (Nat.le_refl _) _).setCell (p := ⟨w.heap.size, 4, none⟩) (Nat.le_refl _) _).setCell (p := ⟨w.heap.size, 5, none⟩) (Nat.le_refl _) _)
  go_wp2
  rw [← hw4, ← hw5]
  have hz5 : w5.heap.size = s3 + 1 + 1 := by rw [hw5]; simp [hz4]
  have hk5 : ∀ k, w.heap.size < k → w5.heap[k]? = w4.heap[k]? := fun k hk => by
    rw [hw5]
    refine (Below.heap_setCell _ _ _ k (by simp; omega)).trans ((Below.heap_setCell _ _ _ k (by simp; omega)).trans ((Below.heap_setCell _ _ _ k (by simp; omega)).trans ((Below.heap_setCell _ _ _ k (by simp; omega)).trans ((Below.heap_setCell _ _ _ k (by simp; omega)).trans (Below.heap_setCell _ _ _ k (by simp; omega))))))
  have HT5 : TabAt w5 w5.heap.size x exT := by
    rw [hx, hz5]
    refine ⟨⟨⟨(show Blk w5 s3 _ _ from (hk5 _ (by omega)).trans HS).rowB rfl (by omega), by intro s hs; simp [exT] at hs; rcases hs with rfl | rfl <;> simp [maxLen]⟩, by simp [exT], by simp [maxLen]⟩, ⟨(show Blk w5 (s3 + 1) _ _ from (hk5 _ (by omega)).trans HI).rowB rfl (by omega), by simp [exT], by simp [maxLen]⟩, ?_, ?_⟩
    · exact HA.out.2.1 w5 _ (by omega) (fun k h1 h2 => (hk5 k (by omega)).trans (HB24.block k (by omega)))
    · exact HB.out.2.1 w5 _ (by omega) (fun k h1 h2 => (hk5 k (by omega)).trans (HB34.block k (by omega)))
  have HT6 := Lib.hid HT5
  obtain ⟨y0, y1, y2, y3, y4, y5, yl⟩ := tab6 HK5.out
  clear HT5 hk5 HA HB HS HI HB34 HB23 HB12 HB14 HB24 HBW4 HK4 hw4 hw5 n0 n1 n2 n3 n4 n5 nl o0 o1 o2 o3 o4 o5 m0 m1 m2 m3 e0 e1 e2 e3 k0 k1 k2 k3 hx
  refine bodyPost_ret (v := x.val exT) ?_ rfl ⟨x, rfl, HT6.out, HBW5.out⟩
  simp [results, Try.results33, go_sem, y0, y1, y2, y3, y4, y5, TA.val]
end Go.Proofs.Ytkpblieanejmeaa
namespace Go.UtYtkpblieanejmeaa
open Go.RowKit
theorem HisAt.mono {w : World} {B B' n : Nat} {uv : Value} {vs : List Value} (h : HisAt w B uv n vs) (hB : B' ≤ B) : HisAt w B' uv n vs := by
  rcases h with h | ⟨A, e, h1, h2, h3, h4⟩
  · refine .inl ⟨h.1, ?_⟩
    rcases h.2 with h' | ⟨g, cap, cur, hv, hb, h'⟩
    · exact .inl h'
    · exact .inr ⟨g, cap, cur, hv, by omega, h'⟩
  · exact .inr ⟨A, e, h1, h2, h3, fun g hg => ⟨by have := (h4 g hg).1; omega, (h4 g hg).2⟩⟩
theorem DocAt.mono {w : World} {B B' D : Nat} {uv : Value} {p : PR} {t : BT} {X : List Int} {U : List EdN} (h : DocAt w B D uv p t X U) (hB : B' ≤ B) : DocAt w B' D uv p t X U := by
  obtain ⟨x, y, At, cX, Ac, cC, vs, h1, h2, ⟨h3, h4⟩, h5⟩ := h
  exact ⟨x, y, At, cX, Ac, cC, vs, h1, ⟨by have := h2.1; omega, h2.2⟩, ⟨h3.mono hB, h4⟩, h5⟩
theorem ex_bnd1 : bndL exP exT [97, 97] = [0, 1, 2] := by
  rw [exBnd]
  decide
theorem ex_bnd2 : bndL exP exT [97, 98, 97] = [0, 2, 3] := by
  rw [exBnd]
  decide
end Go.UtYtkpblieanejmeaa
namespace Go.Proofs.Ytkpblieanejmeaa
open Go.RowKit Go.UtYtkpblieanejmeaa
theorem eq_iff (xs ys : List Int) : (cmpL xs ys == 0) = true ↔ xs = ys := by
  constructor
  · intro h
    exact cmpL_zero xs ys (by simpa using h)
  · rintro rfl
    simp [cmpL_refl]
/-- Equal -/
theorem eql_any (A A' : Option Addr) (c c' n m : Nat) (xs ys : List Int) (w : World) (hx : Row w w.heap.size A (ints xs)) (hy : Row w w.heap.size A' (ints ys)) (hn : xs.length = n) (hm : ys.length = m) (ln : n ≤ 1000000) (lm : m ≤ 1000000) (v : Bool) (hv : v = true ↔ xs = ys) :
    Calls Try.prog 17 #[.slice A n c, .slice A' m c'] w fun e w' => e = .returned (.bool v) ∧ Below w.heap.size w w' := by
  subst hn hm
  have h := equal_below A A' c c' w.heap.size xs ys w hx hy (by simp only [maxLen]; omega) (by simp only [maxLen]; omega)
  have e : (cmpL xs ys == 0) = v := Bool.eq_iff_iff.2 ((eq_iff xs ys).trans hv.symm)
  rwa [e] at h
/-- nothing to undo -/
theorem undo_none (B D : Nat) (uv : Value) (p : PR) (t : BT) (X : List Int) (w : World) (h : DocAt w B D uv p t X []) :
    Calls Try.prog 14 #[.pointer (some ⟨D, 0, none⟩)] w fun e w' => e = .returned (.bool false) ∧ Below w.heap.size w w' := by
  obtain ⟨x, y, At, cX, Ac, cC, vs, hD, h2, ⟨h3, h4⟩, -⟩ := h
  obtain ⟨A0, c0, rfl, -⟩ := h3.row
  exact undo_no D _ A0 c0 _ w hD rfl
theorem exP_val (x : PA) : x.val exP = .agg #[.slice x.n 2 x.cn, .slice x.s 1 x.cs] := rfl
theorem exT_val (x : TA) : x.val exT = .agg #[.slice x.c 2 x.cc, .slice x.a 1 x.ca, .slice x.ln 2 x.cln, .slice x.lm 2 x.clm, .slice x.rn 2 x.crn, .slice x.rm 2 x.crm] := rfl
theorem ex_small : exT.cls.length ≤ 1000 ∧ exT.act.length ≤ 1000 := by decide
theorem ex_smT : smT exT := by
  refine ⟨by decide, ⟨by decide, ?_, ?_⟩, ⟨by decide, ?_, ?_⟩⟩ <;> (intro r hr; simp [exT] at hr; rcases hr with rfl | rfl <;> decide)
theorem ex_new (xp : PA) (y : TA) (A : Option Addr) (c : Nat) (w : World) (hP : PrAt w w.heap.size xp exP) (hT : TabAt w w.heap.size y exT) (hR : Row w w.heap.size A (ints [97, 97])) :
    Calls Try.prog 11 #[xp.val exP, y.val exT, .slice A 2 c] w fun e w' => ∃ D, e = .returned (.tuple #[.pointer (some ⟨D, 0, none⟩), .int .i64 0]) ∧ DocAt w' w.heap.size D (.slice none 0 0) exP exT [97, 97] [] ∧ Below w.heap.size w w' := by
  refine (new_any xp exP y exT A c 2 [97, 97] w hP hT hR rfl (by decide) ex_smT (by decide)).mono ?_
  rintro e w' ⟨h | ⟨-, D, rfl, hd⟩, hb⟩
  · exact absurd ⟨exP_valid, exT_valid⟩ h.1
  · exact ⟨D, rfl, hd, hb⟩
theorem ex_edit (B D : Nat) (A : Option Addr) (c : Nat) (w : World) (h : DocAt w B D (.slice none 0 0) exP exT [97, 97] []) (hA : Row (era w (Foot D (.slice none 0 0))) w.heap.size A (ints [98, 97])) (hc : 2 ≤ c) (hcm : c ≤ maxLen) :
    Calls Try.prog 16 #[.pointer (some ⟨D, 0, none⟩), .agg #[.int .i64 1, .int .i64 1, .slice A 2 c]] w fun e w' => ∃ uv', e = .returned (.tuple #[.agg #[.int .i64 1, .int .i64 3], .int .i64 0]) ∧ DocAt w' B D uv' exP exT [97, 98, 97] ([] ++ [(1, 2, [97])]) ∧ Kept B (Foot D (.slice none 0 0)) w w' := by
  refine (edit_any B D _ exP exT [97, 97] [] 1 1 [98, 97] A 2 c w h hA rfl hc hcm (by decide) (by decide) (by decide) (by decide) ex_small).mono ?_
  have e1 : apN 1 1 [98, 97] [97, 97] = [97, 98, 97] := by decide
  rintro e w' ⟨lo, hi, uv', rfl, h1, h2, h3, h4, -⟩
  rw [e1] at h1 h2 h3
  rw [ex_bnd1, ex_bnd2] at h1 h2
  have l1 : lo = 1 := h1.uniq ⟨Nat.le_refl _, fun p hp => by
    obtain rfl : p = 0 := by omega
    intro h
    exact h (by simp), .inl rfl⟩
  have l2 : hi = 3 := h2.uniq ⟨by decide, by decide, fun q hq hq' => by simp at hq'; omega, .inl rfl⟩
  subst l1 l2
  exact ⟨uv', rfl, h3, h4⟩
theorem ex_no (B D : Nat) (uv : Value) (U : List EdN) (w : World) (h : DocAt w B D uv exP exT [97, 98, 97] U) :
    Calls Try.prog 16 #[.pointer (some ⟨D, 0, none⟩), .agg #[.int .i64 4, .int .i64 0, .slice none 0 0]] w (RetEd0 w 1) :=
  edit_no 4 0 B D uv exP exT [97, 98, 97] U none 0 0 3 w h rfl (by decide)
theorem ex_undo (B D : Nat) (uv : Value) (w : World) (h : DocAt w B D uv exP exT [97, 98, 97] ([] ++ [(1, 2, [97])])) :
    Calls Try.prog 14 #[.pointer (some ⟨D, 0, none⟩)] w (RetUn w B D uv exP exT [97, 97] []) :=
  undo_any B D uv exP exT [97, 98, 97] [] 1 2 [97] w h (by decide) (by decide) (by decide) (by decide) ex_small
theorem rg_held : Try.prog.stoodInHeld 52 = false := by kernel_rfl
theorem eq_rg (w : World) (a b c d : Int) : (Op.equalIn 10000 52 (.agg #[.int .i64 a, .int .i64 b]) (.agg #[.int .i64 c, .int .i64 d])).run Try.prog w = .ok (a == c && b == d) w := by
  have h1 : (Try.prog.fieldsOf 52).toList = [⟨ "Lo", 3, 0, false, "", "", 0⟩, ⟨ "Hi", 3, 1, false, "", "", 8⟩] := by kernel_rfl
  rw [run_equalIn_agg w _ _ _ _ (by kernel_rfl) rg_held, h1]
  simp [go_sem]
  by_cases h : a = c <;> by_cases h' : b = d <;> simp [h, h']
set_option maxRecDepth 100000 in
set_option maxHeartbeats 4000000 in
theorem alive54_any (w : World) : Calls Try.prog 10 #[] w fun e w' => e = .returned (.bool true) ∧ Below w.heap.size w w' := by
  have her := eq_rg
  obtain ⟨u1, hu1, C1, K1⟩ := boxV w 9 #[.string ⟨#[65]⟩, .string ⟨#[66]⟩]
  obtain ⟨u2, hu2, C2, K2⟩ := boxV u1 77 #[.int .i64 98, .int .i64 98, .int .i64 1]
  have z1 : u1.heap.size = w.heap.size + 1 := by rw [hu1]; simp
  have z2 : u2.heap.size = w.heap.size + 1 + 1 := by rw [hu2, World.size_alloc, z1]
  obtain ⟨w3, hw3, C3, K3⟩ := boxV u2 25 #[.slice (some ⟨w.heap.size, 0, none⟩) 2 2, .slice (some ⟨w.heap.size + 1, 0, none⟩) 1 1]
  have D2 := C2.out.trans (C3.out.mono C2.out.size)
  have HB3 : Hid (Below w.heap.size w w3) := Lib.hid (C1.out.trans (D2.mono C1.out.size))
  obtain ⟨xp, hxp⟩ : ∃ xp : PA, xp = ⟨some ⟨w.heap.size, 0, none⟩, some ⟨w.heap.size + 1, 0, none⟩, 2, 1⟩ := ⟨_, rfl⟩
  have HP3 : Hid (PrAt w3 w3.heap.size xp exP) := Lib.hid (by
    rw [hxp]
    have h1 : Row w3 w3.heap.size (some ⟨w.heap.size, 0, none⟩) (strs [[65], [66]]) := (K1.out.after D2).row (vs := strs [[65], [66]]) rfl
    have h2 : Row w3 w3.heap.size (some ⟨w.heap.size + 1, 0, none⟩) (spn [(98, 98, 1)]) := by
      have := (K2.out.after C3.out).row (vs := spn [(98, 98, 1)]) rfl
      rw [z1] at this
      exact this
    exact ⟨⟨⟨h1, by intro s hs; simp [exP] at hs; rcases hs with rfl | rfl <;> simp [maxLen]⟩, by simp [exP], by simp [maxLen]⟩, h2, by simp [exP], by simp [maxLen]⟩)
  obtain ⟨gp, hgp⟩ : ∃ z, z = w.heap.size + 1 + 1 := ⟨_, rfl⟩
  rw [z2] at K3
  rw [← hgp] at K3
  have HK3 := K3
  rw [hu2, hu1] at hw3
  clear K1 K2 K3 C1 C2 C3 D2 hu1 hu2 z1 z2
  go_enter Try.func10, Try.ntmps10
  go_upto_region 2 with fail
  rw [← hw3, ← hgp]
  clear hw3 hgp
  go_cut [2, 3] from 20 to 26 (fun s2 s3 wx => ∃ D : Nat, s2 = .pointer (some ⟨D, 0, none⟩) ∧ s3 = .int .i64 0 ∧ Hid (DocAt wx w3.heap.size D (.slice none 0 0) exP exT [97, 97] []) ∧ Hid (Below w3.heap.size w3 wx))
  case first =>
    refine wp_region_tree (fun w' => Blk w' gp 25 #[.slice (some ⟨w.heap.size, 0, none⟩) 2 2, .slice (some ⟨w.heap.size + 1, 0, none⟩) 1 1]) (.float 0 (.two 1 (.one 2 (.one 3 (.float 4 (.float 5 (.float 6 (.float 7 (.float 8 .done))))))) 2 (.one 1 (.one 3 (.float 4 (.float 5 (.float 6 (.float 7 (.float 8 .done))))))))) (by kernel_rfl) (by kernel_rfl) (fun _ _ d _ _ h => by cases d <;> exact h) HK3.out.drew ?_
    repeat (first
      | (refine wpTr_fskip (by simp only [List.getElem?_toArray, List.getElem?_cons_zero]; rfl) (by rfl) ?_
         simp only [Act.put, List.setIfInBounds_toArray, List.set_cons_zero, List.set_cons_succ])
      | (refine wpTr_float (v := ?_) (by simp only [List.getElem?_toArray, List.getElem?_cons_zero]; rfl) (by rfl) (fun w' hS => ?_) ?_
         rotate_left
         ((obtain ⟨a0', a1', al'⟩ := blk2 hS); go_simp; first | done | rfl)
         simp only [Act.put, List.setIfInBounds_toArray, List.set_cons_zero, List.set_cons_succ]))
    obtain ⟨wd, hwd⟩ : ∃ z, z = w3.drew := ⟨_, rfl⟩
    have HBD : Hid (Below w3.heap.size w3 wd) := by
      rw [hwd]
      exact (Below.refl _ _).drew
    rw [← hwd]
    clear hwd
    refine wpTr_two ?_ ?_
    · refine stepTr_K (by simp only [List.getElem?_toArray, List.getElem?_cons_zero, List.getElem?_cons_succ]; rfl) (by rfl) (fun K hK => ?_)
      go_simp
      refine (div54_any wd).mono ?_
      rintro e w4 ⟨x, rfl, hT, hb4⟩
      have HB4 := Lib.hid (HBD.out.trans (hb4.mono HBD.out.size))
      have HT4 := Lib.hid hT
      rw [exT_val]
      refine hK.out _ _ (HK3.out.after HB4.out) ?_
      clear hK K hT hb4
      try simp only [Act.put, List.setIfInBounds_toArray, List.set_cons_zero, List.set_cons_succ]
      refine wpTr_one ?_
      refine stepTr_K (by simp only [List.getElem?_toArray, List.getElem?_cons_zero, List.getElem?_cons_succ]; rfl) (by rfl) (fun K hK => ?_)
      go_simp
      obtain ⟨w5, hw5, HC5, HI5⟩ := boxV w4 3 #[.int .i64 97, .int .i64 97]
      have HB5 := Lib.hid (HB4.out.trans (HC5.out.mono HB4.out.size))
      have HT5 := Lib.hid (HT4.out.below HC5.out).lt
      have HL5 : Hid (Row w5 w5.heap.size (some ⟨w4.heap.size, 0, none⟩) (ints [97, 97])) := HI5.out.row rfl
      rw [← hw5]
      refine hK.out _ _ (HK3.out.after HB5.out) ?_
      clear hK K hw5
      try simp only [Act.put, List.setIfInBounds_toArray, List.set_cons_zero, List.set_cons_succ]
      refine wpTr_one ?_
      refine stepTr_K (by simp only [List.getElem?_toArray, List.getElem?_cons_zero, List.getElem?_cons_succ]; rfl) (by rfl) (fun K hK => ?_)
      go_simp
      have CN := ex_new xp x (some ⟨w4.heap.size, 0, none⟩) 2 w5 (HP3.out.below HB5.out).lt HT5.out HL5.out
      rw [exP_val, exT_val, hxp] at CN
      refine CN.mono ?_
      rintro e w6 ⟨D, rfl, hd6, hb6⟩
      have HB6 := Lib.hid (HB5.out.trans (hb6.mono HB5.out.size))
      have HD6 := Lib.hid (hd6.mono HB5.out.size)
      refine hK.out _ _ (HK3.out.after HB6.out) ?_
      clear hK K hd6 hb6
      try simp only [Act.put, List.setIfInBounds_toArray, List.set_cons_zero, List.set_cons_succ]
      repeat (first
        | (refine wpTr_fskip (by simp only [List.getElem?_toArray, List.getElem?_cons_zero, List.getElem?_cons_succ]; rfl) (by rfl) ?_
           simp only [Act.put, List.setIfInBounds_toArray, List.set_cons_zero, List.set_cons_succ])
        | (refine wpTr_float (v := ?_) (by simp only [List.getElem?_toArray, List.getElem?_cons_zero, List.getElem?_cons_succ]; rfl) (by rfl) (fun w' hS => ?_) ?_
           rotate_left
           ((skip); go_simp; first | done | rfl)
           simp only [Act.put, List.setIfInBounds_toArray, List.set_cons_zero, List.set_cons_succ]))
      refine wpTr_done ?_
      go_wp2
      go_meet
      case rel => exact ⟨D, rfl, rfl, HD6, HB6⟩
    · refine stepTr_K (by simp only [List.getElem?_toArray, List.getElem?_cons_zero, List.getElem?_cons_succ]; rfl) (by rfl) (fun K hK => ?_)
      go_simp
      obtain ⟨w4, hw4, HC4, HI4⟩ := boxV wd 3 #[.int .i64 97, .int .i64 97]
      have HB4 := Lib.hid (HBD.out.trans (HC4.out.mono HBD.out.size))
      rw [← hw4]
      refine hK.out _ _ (HK3.out.after HB4.out) ?_
      clear hK K hw4
      try simp only [Act.put, List.setIfInBounds_toArray, List.set_cons_zero, List.set_cons_succ]
      refine wpTr_one ?_
      refine stepTr_K (by simp only [List.getElem?_toArray, List.getElem?_cons_zero, List.getElem?_cons_succ]; rfl) (by rfl) (fun K hK => ?_)
      go_simp
      refine (div54_any w4).mono ?_
      rintro e w5 ⟨x, rfl, hT, hb5⟩
      have HB5 := Lib.hid (HB4.out.trans (hb5.mono HB4.out.size))
      have HT5 := Lib.hid hT
      have HL5 : Hid (Row w5 w5.heap.size (some ⟨wd.heap.size, 0, none⟩) (ints [97, 97])) := (HI4.out.after hb5).row rfl
      rw [exT_val]
      refine hK.out _ _ (HK3.out.after HB5.out) ?_
      clear hK K hT hb5
      try simp only [Act.put, List.setIfInBounds_toArray, List.set_cons_zero, List.set_cons_succ]
      refine wpTr_one ?_
      refine stepTr_K (by simp only [List.getElem?_toArray, List.getElem?_cons_zero, List.getElem?_cons_succ]; rfl) (by rfl) (fun K hK => ?_)
      go_simp
      have CN := ex_new xp x (some ⟨wd.heap.size, 0, none⟩) 2 w5 (HP3.out.below HB5.out).lt HT5.out HL5.out
      rw [exP_val, exT_val, hxp] at CN
      refine CN.mono ?_
      rintro e w6 ⟨D, rfl, hd6, hb6⟩
      have HB6 := Lib.hid (HB5.out.trans (hb6.mono HB5.out.size))
      have HD6 := Lib.hid (hd6.mono HB5.out.size)
      refine hK.out _ _ (HK3.out.after HB6.out) ?_
      clear hK K hd6 hb6
      try simp only [Act.put, List.setIfInBounds_toArray, List.set_cons_zero, List.set_cons_succ]
      repeat (first
        | (refine wpTr_fskip (by simp only [List.getElem?_toArray, List.getElem?_cons_zero, List.getElem?_cons_succ]; rfl) (by rfl) ?_
           simp only [Act.put, List.setIfInBounds_toArray, List.set_cons_zero, List.set_cons_succ])
        | (refine wpTr_float (v := ?_) (by simp only [List.getElem?_toArray, List.getElem?_cons_zero, List.getElem?_cons_succ]; rfl) (by rfl) (fun w' hS => ?_) ?_
           rotate_left
           ((skip); go_simp; first | done | rfl)
           simp only [Act.put, List.setIfInBounds_toArray, List.set_cons_zero, List.set_cons_succ]))
      refine wpTr_done ?_
      go_wp2
      go_meet
      case rel => exact ⟨D, rfl, rfl, HD6, HB6⟩
  case rest =>
    obtain ⟨D, rfl, rfl, HD4, HB4⟩ := hcut
    have HBW4 := Lib.hid (HB3.out.trans (HB4.out.mono HB3.out.size))
    clear HP3 HK3 hxp
    obtain ⟨w5, hw5, HC5, HI5⟩ := boxV wc 3 #[.int .i64 98, .int .i64 97]
    have HB5 := Lib.hid (HBW4.out.trans (HC5.out.mono HBW4.out.size))
    have HD5 := Lib.hid (HD4.out.after HC5.out)
    have HL5 : Hid (Row (era w5 (Foot D (.slice none 0 0))) w5.heap.size (some ⟨wc.heap.size, 0, none⟩) (ints [98, 97])) := Lib.hid ((HI5.out.row (vs := ints [98, 97]) rfl).era_new (NewAt.at_ (Nat.le_refl _)) (fun b hb => HD4.out.footLt b hb))
    go_wp2_with fail
    rw [← hw5]
    refine (ex_edit w3.heap.size D _ 2 w5 HD5.out HL5.out (by decide) (by simp [maxLen])).mono ?_
    rintro e w6 ⟨uv', rfl, hd6, hk6⟩
    have HB6 := Lib.hid (HB5.out.trans (hk6.1.mono HB3.out.size))
    have HD6 := Lib.hid hd6
    clear hd6 hk6 hw5
    obtain ⟨w7, hw7, HC7, HR7⟩ := boxV w6 52 #[.int .i64 1, .int .i64 3]
    have HB7 := Lib.hid (HB6.out.trans (HC7.out.mono HB6.out.size))
    have HD7 := Lib.hid (HD6.out.after HC7.out)
    obtain ⟨g4, hg4⟩ : ∃ z, z = w6.heap.size := ⟨_, rfl⟩
    have HNF : Hid (¬ Foot D uv' g4) := Lib.hid (fun h => by have := HD6.out.footLt g4 h; omega)
    rw [← hg4] at HR7
    go_wp2_with fail
    rw [← hw7, ← hg4]
    clear hw7 hg4
    refine (ex_no w3.heap.size D uv' _ w7 HD7.out).mono ?_
    rintro e w8 ⟨rfl, hb8⟩
    have HB8 := Lib.hid (HB7.out.trans (hb8.mono HB7.out.size))
    have HD8 := Lib.hid (HD7.out.after hb8)
    have HR8 := Lib.hid (HR7.out.after hb8)
    clear hb8
    obtain ⟨w9, hw9, HC9, -⟩ := boxV w8 52 #[.int .i64 0, .int .i64 0]
    have HB9 := Lib.hid (HB8.out.trans (HC9.out.mono HB8.out.size))
    have HD9 := Lib.hid (HD8.out.after HC9.out)
    have HR9 := Lib.hid (HR8.out.after HC9.out)
    have CB9 := docB_any w3.heap.size D uv' exP exT [97, 98, 97] _ w9 HD9.out (by decide)
    unfold RetInts at CB9
    rw [ex_bnd2] at CB9
    replace CB9 := Lib.hid CB9
    go_wp2_with fail
    rw [← hw9]
    clear hw9
    refine CB9.out.mono ?_
    rintro e w10 ⟨A10, c10, rfl, k1, k2, hr10, hn10, hb10⟩
    have HB10 := Lib.hid (HB9.out.trans (hb10.mono HB9.out.size))
    have HD10 := Lib.hid (HD9.out.after hb10)
    have HR10 := Lib.hid (HR9.out.after hb10)
    have HL10 : Hid (Row (era w10 (Foot D uv')) w10.heap.size A10 (ints [0, 2, 3])) := Lib.hid (hr10.era_new hn10 (fun b hb => HD9.out.footLt b hb))
    have CN10 := docN_any w3.heap.size D uv' exP exT [97, 98, 97] _ 0 w10 HD10.out (by decide)
    have CP10 := docP_any w3.heap.size D uv' exP exT [97, 98, 97] _ 2 w10 HD10.out (by decide)
    rw [ex_bnd2, show nextL [0, 2, 3] 0 = 2 by decide] at CN10
    rw [ex_bnd2, show prevL [0, 2, 3] 2 = 0 by decide] at CP10
    replace CN10 := Lib.hid CN10
    replace CP10 := Lib.hid CP10
    clear k1 k2 hr10 hn10 hb10 CB9
    go_wp2_with fail
    refine CN10.out.mono ?_
    rintro e wx ⟨rfl, hwx⟩
    subst hwx
    go_wp2_with fail
    refine CP10.out.mono ?_
    rintro e wx2 ⟨rfl, hwx⟩
    subst hwx
    clear CN10 CP10
    go_wp2_with fail
    refine (ex_undo w3.heap.size D uv' wx2 HD10.out).mono ?_
    rintro e w11 ⟨rfl, uv2, hd11, hk11, hg11⟩
    have HB11 := Lib.hid (HB10.out.trans (hk11.1.mono HB3.out.size))
    have HD11 := Lib.hid hd11
    have HR11 := Lib.hid (HR10.out.kept hk11 HNF.out)
    have HL11 := Lib.hid ((HL10.out.kept hk11 hg11).of_era)
    clear hd11 hk11 hg11
    go_wp2_with fail
    refine (undo_none w3.heap.size D uv2 exP exT [97, 97] w11 HD11.out).mono ?_
    rintro e w12 ⟨rfl, hb12⟩
    have HB12 := Lib.hid (HB11.out.trans (hb12.mono HB11.out.size))
    have HD12 := Lib.hid (HD11.out.after hb12)
    have HR12 := Lib.hid (HR11.out.after hb12)
    have HL12 := Lib.hid (HL11.out.below hb12).lt
    clear hb12
    go_wp2_with fail
    refine (edit_nil (.int .i64 0) (.int .i64 0) none 0 0 w12).mono ?_
    rintro e w13 ⟨rfl, hb13⟩
    have HB13 := Lib.hid (HB12.out.trans (hb13.mono HB12.out.size))
    have HD13 := Lib.hid (HD12.out.after hb13)
    have HR13 := Lib.hid (HR12.out.after hb13)
    have HL13 := Lib.hid (HL12.out.below hb13).lt
    clear hb13
    obtain ⟨w14, hw14, HC14, -⟩ := boxV w13 52 #[.int .i64 0, .int .i64 0]
    have HB14 := Lib.hid (HB13.out.trans (HC14.out.mono HB13.out.size))
    have HD14 := Lib.hid (HD13.out.after HC14.out)
    have HR14 := Lib.hid (HR13.out.after HC14.out)
    have HL14 := Lib.hid (HL13.out.below HC14.out).lt
    go_upto_region 12 with fail
    rw [← hw14]
    clear hw14
    obtain ⟨r0, r1, rl⟩ := blk2 HR14.out
    obtain ⟨w15, hw15, HC15, HI15⟩ := boxV w14 3 #[.int .i64 0, .int .i64 2, .int .i64 3]
    have HB15 := Lib.hid (HB14.out.trans (HC15.out.mono HB14.out.size))
    have HD15 := Lib.hid (HD14.out.after HC15.out)
    have HL15 := Lib.hid (HL14.out.below HC15.out).lt
    have CE15 := Lib.hid (eql_any A10 (some ⟨w14.heap.size, 0, none⟩) c10 3 3 3 [0, 2, 3] [0, 2, 3] w15 HL15.out (HI15.out.row rfl) rfl rfl (by decide) (by decide) true (by simp))
    go_wp2_with fail
    rw [← hw15]
    clear hw15
    refine CE15.out.mono ?_
    rintro e w16 ⟨rfl, hb16⟩
    have HB16 := Lib.hid (HB15.out.trans (hb16.mono HB15.out.size))
    have HD16 := Lib.hid (HD15.out.after hb16)
    have CT16 := docT_any w3.heap.size D uv2 exP exT [97, 97] _ w16 HD16.out (by decide)
    unfold RetInts at CT16
    replace CT16 := Lib.hid CT16
    clear hb16 r0 r1 rl CE15
    go_wp2_with fail
    refine CT16.out.mono ?_
    rintro e w17 ⟨A17, c17, rfl, k1, k2, hr17, hn17, hb17⟩
    have HB17 := Lib.hid (HB16.out.trans (hb17.mono HB16.out.size))
    obtain ⟨w18, hw18, HC18, HI18⟩ := boxV w17 3 #[.int .i64 97, .int .i64 97]
    have HB18 := Lib.hid (HB17.out.trans (HC18.out.mono HB17.out.size))
    have CE18 := Lib.hid (eql_any A17 (some ⟨w17.heap.size, 0, none⟩) c17 2 2 2 [97, 97] [97, 97] w18 (hr17.below HC18.out).lt (HI18.out.row rfl) rfl rfl (by decide) (by decide) true (by simp))
    clear k1 k2 hr17 hn17 hb17 CT16
    go_wp2_with fail
    rw [← hw18]
    clear hw18
    refine CE18.out.mono ?_
    rintro e w19 ⟨rfl, hb19⟩
    have HB19 := Lib.hid (HB18.out.trans (hb19.mono HB18.out.size))
    clear hb19 CE18
    go_wp2_with fail
    refine (docN_nil 0 w19).mono ?_
    rintro e wy ⟨rfl, hwy⟩
    subst hwy
    go_wp2_with fail
    refine (undo_nil wy).mono ?_
    rintro e wz ⟨rfl, hwz⟩
    subst hwz
    go_wp2
    go_ret
    exact ⟨rfl, HB19.out⟩
end Go.Proofs.Ytkpblieanejmeaa
