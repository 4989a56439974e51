/-
  The reference's document as a value, in memory.
  ref54.Boundaries, Next, Previous, New.
  ref54.Undo (printed by id4.py).
  ref54.Edit (printed by id5.py).
-/
import Derived.Test.YtkpblieanejmeaaIb1
import Derived.Test.YtkpblieanejmeaaIb0
import Derived.Test.YtkpblieanejmeaaBq5
import Derived.Test.YtkpblieanejmeaaBp1
import Derived.Test.YtkpblieanejmeaaBw3
import Derived.Test.YtkpblieanejmeaaIc3
import Derived.Test.YtkpblieanejmeaaIc0
import Derived.Test.YtkpblieanejmeaaIb2
import Derived.Test.YtkpblieanejmeaaEdm
namespace Go.UtYtkpblieanejmeaa
open Go.RowKit
/-- the ten cells of the reference's document -/
def refC (x : PA) (p : PR) (y : TA) (t : BT) (At : Option Addr) (nX cX : Nat) (Ab : Option Addr) (nB cB : Nat) : Array Value :=
  #[.slice x.n p.names.length x.cn, .slice x.s p.spans.length x.cs, .slice y.c t.cls.length y.cc, .slice y.a t.act.length y.ca, .slice y.ln t.ln.length y.cln, .slice y.lm t.lm.length y.clm, .slice y.rn t.rn.length y.crn, .slice y.rm t.rm.length y.crm, .slice At nX cX, .slice Ab nB cB]
/-- the reference's document: the value v -/
def RefAt (w : World) (B : Nat) (v : Value) (p : PR) (t : BT) (X : List Int) (Bf : List (List Int)) : Prop :=
  ∃ (x : PA) (y : TA) (At : Option Addr) (cX : Nat) (Ab : Option Addr) (cB : Nat),
    v = .agg (refC x p y t At X.length cX Ab Bf.length cB) ∧
    PrAt w B x p ∧ TabAt w B y t ∧ (Row w B At (ints X) ∧ X.length ≤ cX ∧ cX ≤ maxLen) ∧ Rows2 w B Ab Bf ∧ Bf.length ≤ cB ∧ cB ≤ maxLen
theorem RefAt.era_keep {w w' : World} {B : Nat} {E E' : Nat → Prop} {v : Value} {p : PR} {t : BT} {X : List Int} {Bf : List (List Int)} (h : RefAt (era w E) B v p t X Bf) (hk : ∀ b, b < B → ¬ E b → w'.heap[b]? = w.heap[b]?) (he : ∀ b, b < B → E' b → E b) : RefAt (era w' E') B v p t X Bf := by
  obtain ⟨x, y, At, cX, Ab, cB, h1, h2, h3, h4, h5, h6⟩ := h
  exact ⟨x, y, At, cX, Ab, cB, h1, h2.era_keep hk he, h3.era_keep hk he, ⟨h4.1.era_keep hk he, h4.2⟩, h5.era_keep hk he, h6⟩
theorem RefAt.more {w : World} {B B' : Nat} {v : Value} {p : PR} {t : BT} {X : List Int} {Bf : List (List Int)} (h : RefAt w B v p t X Bf) (hB : B ≤ B') : RefAt w B' v p t X Bf := by
  obtain ⟨x, y, At, cX, Ab, cB, h1, h2, h3, h4, h5, h6⟩ := h
  exact ⟨x, y, At, cX, Ab, cB, h1, h2.more hB, h3.more hB, ⟨h4.1.more hB, h4.2⟩, h5.more hB, h6⟩
theorem RefAt.of_era {w : World} {B : Nat} {E : Nat → Prop} {v : Value} {p : PR} {t : BT} {X : List Int} {Bf : List (List Int)} (h : RefAt (era w E) B v p t X Bf) : RefAt w B v p t X Bf := by
  obtain ⟨x, y, At, cX, Ab, cB, h1, h2, h3, h4, h5, h6⟩ := h
  exact ⟨x, y, At, cX, Ab, cB, h1, h2.of_era, h3.of_era, ⟨h4.1.of_era, h4.2⟩, h5.of_era, h6⟩
theorem RefAt.era_below {w : World} {B : Nat} {E : Nat → Prop} {v : Value} {p : PR} {t : BT} {X : List Int} {Bf : List (List Int)} (h : RefAt w B v p t X Bf) (he : ∀ b, E b → B ≤ b) : RefAt (era w E) B v p t X Bf := by
  obtain ⟨x, y, At, cX, Ab, cB, h1, h2, h3, h4, h5, h6⟩ := h
  exact ⟨x, y, At, cX, Ab, cB, h1, h2.era_below he, h3.era_below he, ⟨h4.1.era_below he, h4.2⟩, h5.era_below he, h6⟩
theorem RefAt.below {w w' : World} {B : Nat} {v : Value} {p : PR} {t : BT} {X : List Int} {Bf : List (List Int)} (h : RefAt w B v p t X Bf) (hb : Below B w w') : RefAt w' B v p t X Bf := by
  obtain ⟨x, y, At, cX, Ab, cB, h1, h2, h3, h4, h5, h6⟩ := h
  exact ⟨x, y, At, cX, Ab, cB, h1, h2.below hb, h3.below hb, ⟨h4.1.below hb, h4.2⟩, h5.below hb, h6⟩
theorem RefAt.kept {w w' : World} {B : Nat} {E E' : Nat → Prop} {v : Value} {p : PR} {t : BT} {X : List Int} {Bf : List (List Int)} (h : RefAt (era w E) w.heap.size v p t X Bf) (hk : Kept B E w w') (hg : Grew w E E') : RefAt (era w' E') w'.heap.size v p t X Bf :=
  (h.era_keep (fun b hb hE => hk.2 b hb hE) (fun b hb hE => (hg b hE).resolve_right (by omega))).more hk.1.size
theorem ref_cells {w : World} {g T : Nat} {x : PA} {p : PR} {y : TA} {t : BT} {A1 : Option Addr} {n1 c1 : Nat} {A2 : Option Addr} {n2 c2 : Nat} (h : Blk w g T (refC x p y t A1 n1 c1 A2 n2 c2)) :
    (w.cell? ⟨g, 0, none⟩ = some (.slice x.n p.names.length x.cn) ∧ w.cell? ⟨g, 1, none⟩ = some (.slice x.s p.spans.length x.cs)) ∧
    (w.cell? ⟨g, 2, none⟩ = some (.slice y.c t.cls.length y.cc) ∧ w.cell? ⟨g, 3, none⟩ = some (.slice y.a t.act.length y.ca) ∧ w.cell? ⟨g, 4, none⟩ = some (.slice y.ln t.ln.length y.cln) ∧ w.cell? ⟨g, 5, none⟩ = some (.slice y.lm t.lm.length y.clm) ∧ w.cell? ⟨g, 6, none⟩ = some (.slice y.rn t.rn.length y.crn) ∧ w.cell? ⟨g, 7, none⟩ = some (.slice y.rm t.rm.length y.crm)) ∧
    w.cell? ⟨g, 8, none⟩ = some (.slice A1 n1 c1) ∧ w.cell? ⟨g, 9, none⟩ = some (.slice A2 n2 c2) ∧ g < w.heap.size :=
  ⟨⟨h.cell 0, h.cell 1⟩, ⟨h.cell 2, h.cell 3, h.cell 4, h.cell 5, h.cell 6, h.cell 7⟩, h.cell 8, h.cell 9, h.lt⟩
/-- ten cells stored -/
def put10 (w : World) (g : Nat) (a0 a1 a2 a3 a4 a5 a6 a7 a8 a9 : Value) : World := ((((((((((w.setCell ⟨g, 0, none⟩ a0).setCell ⟨g, 1, none⟩ a1).setCell ⟨g, 2, none⟩ a2).setCell ⟨g, 3, none⟩ a3).setCell ⟨g, 4, none⟩ a4).setCell ⟨g, 5, none⟩ a5).setCell ⟨g, 6, none⟩ a6).setCell ⟨g, 7, none⟩ a7).setCell ⟨g, 8, none⟩ a8).setCell ⟨g, 9, none⟩ a9)
section
variable {w : World} {g T : Nat} {a0 a1 a2 a3 a4 a5 a6 a7 a8 a9 : Value}
theorem put10_keep : ∀ b, b ≠ g → (put10 w g a0 a1 a2 a3 a4 a5 a6 a7 a8 a9).heap[b]? = w.heap[b]? := fun b hb => (Below.heap_setCell _ _ _ b hb).trans ((Below.heap_setCell _ _ _ b hb).trans ((Below.heap_setCell _ _ _ b hb).trans ((Below.heap_setCell _ _ _ b hb).trans ((Below.heap_setCell _ _ _ b hb).trans ((Below.heap_setCell _ _ _ b hb).trans ((Below.heap_setCell _ _ _ b hb).trans ((Below.heap_setCell _ _ _ b hb).trans ((Below.heap_setCell _ _ _ b hb).trans (Below.heap_setCell _ _ _ b hb)))))))))
theorem put10_size : (put10 w g a0 a1 a2 a3 a4 a5 a6 a7 a8 a9).heap.size = w.heap.size := by simp [put10, World.setCell]
theorem put10_below {B : Nat} {u : World} (h : Below B u w) (hg : B ≤ g) : Below B u (put10 w g a0 a1 a2 a3 a4 a5 a6 a7 a8 a9) := ((((((((((h.setCell (p := ⟨g, 0, none⟩) hg a0).setCell (p := ⟨g, 1, none⟩) hg a1).setCell (p := ⟨g, 2, none⟩) hg a2).setCell (p := ⟨g, 3, none⟩) hg a3).setCell (p := ⟨g, 4, none⟩) hg a4).setCell (p := ⟨g, 5, none⟩) hg a5).setCell (p := ⟨g, 6, none⟩) hg a6).setCell (p := ⟨g, 7, none⟩) hg a7).setCell (p := ⟨g, 8, none⟩) hg a8).setCell (p := ⟨g, 9, none⟩) hg a9)
theorem put10_blk {b0 b1 b2 b3 b4 b5 b6 b7 b8 b9 : Value} (h : Blk w g T #[b0, b1, b2, b3, b4, b5, b6, b7, b8, b9]) : Blk (put10 w g a0 a1 a2 a3 a4 a5 a6 a7 a8 a9) g T #[a0, a1, a2, a3, a4, a5, a6, a7, a8, a9] := by
  have := ((((((((((h.set_ 0 a0).set_ 1 a1).set_ 2 a2).set_ 3 a3).set_ 4 a4).set_ 5 a5).set_ 6 a6).set_ 7 a7).set_ 8 a8).set_ 9 a9)
  simp only [List.setIfInBounds_toArray, List.set_cons_zero, List.set_cons_succ] at this
  exact this
end
/-- the ten cells of a block -/
theorem cells10 {w : World} {g T : Nat} {a0 a1 a2 a3 a4 a5 a6 a7 a8 a9 : Value} (h : Blk w g T #[a0, a1, a2, a3, a4, a5, a6, a7, a8, a9]) :
    (w.cell? ⟨g, 0, none⟩ = some a0 ∧ w.cell? ⟨g, 1, none⟩ = some a1 ∧ w.cell? ⟨g, 2, none⟩ = some a2 ∧ w.cell? ⟨g, 3, none⟩ = some a3 ∧ w.cell? ⟨g, 4, none⟩ = some a4 ∧ w.cell? ⟨g, 5, none⟩ = some a5 ∧ w.cell? ⟨g, 6, none⟩ = some a6 ∧ w.cell? ⟨g, 7, none⟩ = some a7 ∧ w.cell? ⟨g, 8, none⟩ = some a8 ∧ w.cell? ⟨g, 9, none⟩ = some a9) ∧ (w.frozen? ⟨g, 0, none⟩ = false ∧ w.frozen? ⟨g, 1, none⟩ = false ∧ w.frozen? ⟨g, 2, none⟩ = false ∧ w.frozen? ⟨g, 3, none⟩ = false ∧ w.frozen? ⟨g, 4, none⟩ = false ∧ w.frozen? ⟨g, 5, none⟩ = false ∧ w.frozen? ⟨g, 6, none⟩ = false ∧ w.frozen? ⟨g, 7, none⟩ = false ∧ w.frozen? ⟨g, 8, none⟩ = false ∧ w.frozen? ⟨g, 9, none⟩ = false) ∧ g < w.heap.size :=
  ⟨⟨h.cell 0, h.cell 1, h.cell 2, h.cell 3, h.cell 4, h.cell 5, h.cell 6, h.cell 7, h.cell 8, h.cell 9⟩, ⟨h.free 0, h.free 1, h.free 2, h.free 3, h.free 4, h.free 5, h.free 6, h.free 7, h.free 8, h.free 9⟩, h.lt⟩
/-- each text is at most 40 elements longer than the one before it -/
def Short (X : List Int) (Bf : List (List Int)) : Prop := ∀ (k : Nat) (Y : List Int), (Bf ++ [X])[k]? = some Y → Y.length ≤ 20 + 40 * k
theorem Short.push {X Y : List Int} {Bf : List (List Int)} (h : Short X Bf) (hY : Y.length ≤ X.length + 40) : Short Y (Bf ++ [X]) := fun k Z hk => by
  by_cases hlt : k < (Bf ++ [X]).length
  · rw [List.getElem?_append_left hlt] at hk
    exact h k Z hk
  · have hk2 : k = (Bf ++ [X]).length := by
      have := (List.getElem?_eq_some_iff.1 hk).1
      simp at this hlt ⊢
      omega
    subst hk2
    rw [List.getElem?_append_right (Nat.le_refl _), Nat.sub_self] at hk
    simp at hk
    subst hk
    have := h Bf.length X (by rw [List.getElem?_append_right (Nat.le_refl _), Nat.sub_self]; rfl)
    simp
    omega
theorem Short.pop {X Y : List Int} {Bf : List (List Int)} (h : Short X (Bf ++ [Y])) : Short Y Bf := fun k Z hk => h k Z (by
  have := (List.getElem?_eq_some_iff.1 hk).1
  rw [List.getElem?_append_left this]
  exact hk)
/-- the text at first -/
def First (X0 X : List Int) (Bf : List (List Int)) : Prop := (Bf ++ [X])[0]? = some X0
theorem First.nil (X : List Int) : First X X [] := rfl
theorem First.push {X0 X Y : List Int} {Bf : List (List Int)} (h : First X0 X Bf) : First X0 Y (Bf ++ [X]) := by
  unfold First at h ⊢
  rw [List.getElem?_append_left (by simp)]
  exact h
theorem First.pop {X0 X Y : List Int} {Bf : List (List Int)} (h : First X0 X (Bf ++ [Y])) : First X0 Y Bf := by
  unfold First at h ⊢
  rw [List.getElem?_append_left (by simp)] at h
  exact h
theorem First.same {X0 X : List Int} (h : First X0 X []) : X = X0 := by
  unfold First at h
  simpa using h
/-- at most 40 elements longer -/
theorem apN_short {i d : Nat} {ins X : List Int} (h : i + d ≤ X.length) (hi : ins.length ≤ 40) : (apN i d ins X).length ≤ X.length + 40 := by
  rw [apN_len h]
  omega
theorem Short.nil {X : List Int} (h : X.length ≤ 20) : Short X [] := fun k Y hk => by
  cases k with
  | zero =>
    simp at hk
    subst hk
    omega
  | succ k => simp at hk
theorem Short.len {X : List Int} {Bf : List (List Int)} (h : Short X Bf) : X.length ≤ 20 + 40 * Bf.length := h Bf.length X (by rw [List.getElem?_append_right (Nat.le_refl _), Nat.sub_self]; rfl)
end Go.UtYtkpblieanejmeaa
namespace Go.Proofs.Ytkpblieanejmeaa
open Go.RowKit Go.UtYtkpblieanejmeaa
set_option maxRecDepth 100000 in
set_option maxHeartbeats 2000000 in
theorem rB_any (v : Value) (p : PR) (t : BT) (X : List Int) (Bf : List (List Int)) (w : World) (h : RefAt w w.heap.size v p t X Bf) (hl : X.length ≤ 10000) (hsp : p.spans.length ≤ 100000) (hsm : t.cls.length ≤ 1000 ∧ t.act.length ≤ 1000) :
    Calls Try.prog 20 #[v] w (RetI w (bndL p t X)) := by
  obtain ⟨x, y, At, cX, Ab, cB, rfl, h2, h3, h4, h5, h6⟩ := h
  obtain ⟨n, hn⟩ : ∃ n, X.length = n := ⟨_, rfl⟩
  obtain ⟨nb, hnb⟩ : ∃ n, Bf.length = n := ⟨_, rfl⟩
  have CB := fun (u : World) (hu : Below w.heap.size w u) => rbounds_any x p y t At cX X u (h2.below hu).lt hsp (h3.below hu).lt hsm (h4.1.below hu).lt (by omega)
  unfold PA.val TA.val RetI at CB
  rw [hn] at CB
  obtain ⟨N, hN⟩ : ∃ n, (bndL p t X).length = n := ⟨_, rfl⟩
  rw [hN] at CB
  have HNB := Lib.hid hN
  replace CB := Lib.hid CB
  rw [hn, hnb]
  obtain ⟨w1, hw1, HB1, HK1⟩ := boxV w 42 (refC x p y t At n cX Ab nb cB)
  obtain ⟨⟨a0, a1⟩, ⟨a2, a3, a4, a5, a6, a7⟩, a8, a9, al⟩ := ref_cells HK1.out
  unfold refC at hw1 ⊢
  clear h2 h3 h4 h5 h6 hn hnb hl hsp hsm hN
  go_enter Try.func20, Try.ntmps20
  go_upto_region 1 with fail
  rw [← hw1]
  clear hw1
  go_wp2_with fail
  refine (CB.out w1 HB1.out).mono ?_
  rintro e w3 ⟨A3, c3, rfl, g1, g2, hr3, hb3⟩
  have HB3 := Lib.hid (HB1.out.trans (hb3.mono HB1.out.size))
  have HR3 := Lib.hid hr3
  clear hr3
  clear hb3 a0 a1 a2 a3 a4 a5 a6 a7 a8 a9 al
  go_wp2
  go_ret
  exact ⟨A3, c3, by rw [HNB.out]; rfl, by rw [HNB.out]; exact g1, g2, HR3.out, HB3.out⟩
set_option maxRecDepth 100000 in
set_option maxHeartbeats 2000000 in
theorem rN_any (v : Value) (p : PR) (t : BT) (X : List Int) (Bf : List (List Int)) (a : Int) (w : World) (h : RefAt w w.heap.size v p t X Bf) (hl : X.length ≤ 10000) (hsp : p.spans.length ≤ 100000) (hsm : t.cls.length ≤ 1000 ∧ t.act.length ≤ 1000) :
    Calls Try.prog 22 #[v, .int .i64 a] w fun e w' => e = .returned (.int .i64 (nextL (bndL p t X) a)) ∧ Below w.heap.size w w' := by
  obtain ⟨x, y, At, cX, Ab, cB, rfl, h2, h3, h4, h5, h6⟩ := h
  obtain ⟨n, hn⟩ : ∃ n, X.length = n := ⟨_, rfl⟩
  obtain ⟨nb, hnb⟩ : ∃ n, Bf.length = n := ⟨_, rfl⟩
  have CB := fun (u : World) (hu : Below w.heap.size w u) => rnext_any x p y t At cX X u (h2.below hu).lt hsp (h3.below hu).lt hsm (h4.1.below hu).lt (by omega) a
  unfold PA.val TA.val at CB
  rw [hn] at CB
  obtain ⟨r, hr⟩ : ∃ r, nextL (bndL p t X) a = r := ⟨_, rfl⟩
  rw [hr] at CB ⊢
  replace CB := Lib.hid CB
  rw [hn, hnb]
  obtain ⟨w1, hw1, HB1, HK1⟩ := boxV w 42 (refC x p y t At n cX Ab nb cB)
  obtain ⟨⟨a0, a1⟩, ⟨a2, a3, a4, a5, a6, a7⟩, a8, a9, al⟩ := ref_cells HK1.out
  unfold refC at hw1 ⊢
  clear h2 h3 h4 h5 h6 hn hnb hl hsp hsm hr
  go_enter Try.func22, Try.ntmps22
  go_upto_region 1 with fail
  rw [← hw1]
  clear hw1
  go_wp2_with fail
  refine (CB.out w1 HB1.out).mono ?_
  rintro e w3 ⟨rfl, hb3⟩
  have HB3 := Lib.hid (HB1.out.trans (hb3.mono HB1.out.size))
  clear hb3 a0 a1 a2 a3 a4 a5 a6 a7 a8 a9 al
  go_wp2
  go_ret
  exact ⟨rfl, HB3.out⟩
set_option maxRecDepth 100000 in
set_option maxHeartbeats 2000000 in
theorem rP_any (v : Value) (p : PR) (t : BT) (X : List Int) (Bf : List (List Int)) (a : Int) (w : World) (h : RefAt w w.heap.size v p t X Bf) (hl : X.length ≤ 10000) (hsp : p.spans.length ≤ 100000) (hsm : t.cls.length ≤ 1000 ∧ t.act.length ≤ 1000) :
    Calls Try.prog 24 #[v, .int .i64 a] w fun e w' => e = .returned (.int .i64 (prevL (bndL p t X) a)) ∧ Below w.heap.size w w' := by
  obtain ⟨x, y, At, cX, Ab, cB, rfl, h2, h3, h4, h5, h6⟩ := h
  obtain ⟨n, hn⟩ : ∃ n, X.length = n := ⟨_, rfl⟩
  obtain ⟨nb, hnb⟩ : ∃ n, Bf.length = n := ⟨_, rfl⟩
  have CB := fun (u : World) (hu : Below w.heap.size w u) => rprev_any x p y t At cX X u (h2.below hu).lt hsp (h3.below hu).lt hsm (h4.1.below hu).lt (by omega) a
  unfold PA.val TA.val at CB
  rw [hn] at CB
  obtain ⟨r, hr⟩ : ∃ r, prevL (bndL p t X) a = r := ⟨_, rfl⟩
  rw [hr] at CB ⊢
  replace CB := Lib.hid CB
  rw [hn, hnb]
  obtain ⟨w1, hw1, HB1, HK1⟩ := boxV w 42 (refC x p y t At n cX Ab nb cB)
  obtain ⟨⟨a0, a1⟩, ⟨a2, a3, a4, a5, a6, a7⟩, a8, a9, al⟩ := ref_cells HK1.out
  unfold refC at hw1 ⊢
  clear h2 h3 h4 h5 h6 hn hnb hl hsp hsm hr
  go_enter Try.func24, Try.ntmps24
  go_upto_region 1 with fail
  rw [← hw1]
  clear hw1
  go_wp2_with fail
  refine (CB.out w1 HB1.out).mono ?_
  rintro e w3 ⟨rfl, hb3⟩
  have HB3 := Lib.hid (HB1.out.trans (hb3.mono HB1.out.size))
  clear hb3 a0 a1 a2 a3 a4 a5 a6 a7 a8 a9 al
  go_wp2
  go_ret
  exact ⟨rfl, HB3.out⟩
/-- what New returns -/
def RetRN (x : PA) (p : PR) (y : TA) (t : BT) (At : Option Addr) (n ct : Nat) (w : World) (e : Ending) (w' : World) : Prop :=
  ((¬ (validP p ∧ validT t) ∧ e = .returned (.tuple #[.agg #[.slice none 0 0, .slice none 0 0, .slice none 0 0, .slice none 0 0, .slice none 0 0, .slice none 0 0, .slice none 0 0, .slice none 0 0, .slice none 0 0, .slice none 0 0], .int .i64 11])) ∨ ((validP p ∧ validT t) ∧ e = .returned (.tuple #[.agg (refC x p y t At n ct none 0 0), .int .i64 0]))) ∧ Below w.heap.size w w'
set_option maxRecDepth 100000 in
set_option maxHeartbeats 4000000 in
theorem rnew_any (x : PA) (p : PR) (y : TA) (t : BT) (At : Option Addr) (ct n : Nat) (w : World) (hP : PrAt w w.heap.size x p) (hY : TabAt w w.heap.size y t)
    (hps : p.names.length ≤ 1000 ∧ p.spans.length ≤ 1000) (hct : t.cls.length ≤ 1000 ∧ t.act.length ≤ 1000) (hl : n ≤ 10000) :
    Calls Try.prog 12 #[x.val p, y.val t, .slice At n ct] w (RetRN x p y t At n ct w) := by
  have CP := Lib.hid (fun (u : World) (hu : Below w.heap.size w u) (v : Bool) (hv : v = true ↔ validP p) => rvalidP_any x p u (hP.below hu).lt (by omega) v hv)
  have CV := Lib.hid (fun (u : World) (hu : Below w.heap.size w u) (v : Bool) (hv : v = true ↔ validT t) => valid29_any y t u (hY.below hu).lt hct v hv)
  unfold PA.val TA.val at *
  obtain ⟨w1, hw1, HB1, HK1⟩ := boxV w 25 #[.slice x.n p.names.length x.cn, .slice x.s p.spans.length x.cs]
  obtain ⟨w2, hw2, HB2', HK2'⟩ := boxT w1 31 y t
  have hs1 : w1.heap.size = w.heap.size + 1 := by rw [hw1]; simp
  have hs2 : w2.heap.size = w.heap.size + 1 + 1 := by rw [hw2, ← hs1]; simp
  obtain ⟨w3, hw3, HB3', HK3''⟩ := boxV w2 42 #[.slice none 0 0, .slice none 0 0, .slice none 0 0, .slice none 0 0, .slice none 0 0, .slice none 0 0, .slice none 0 0, .slice none 0 0, .slice none 0 0, .slice none 0 0]
  have HB2 := Lib.hid (HB1.out.trans (HB2'.out.mono HB1.out.size))
  have HB3 := Lib.hid (HB2.out.trans (HB3'.out.mono HB2.out.size))
  have HK3 := Lib.hid ((HK1.out.after HB2'.out).after HB3'.out)
  have HK3' := Lib.hid (HK2'.out.after HB3'.out)
  rw [hs1] at HK3'
  rw [hs2] at HK3''
  obtain ⟨g, hg⟩ : ∃ g, g = w.heap.size + 1 := ⟨_, rfl⟩
  obtain ⟨gr, hgr⟩ : ∃ g, g = w.heap.size + 1 + 1 := ⟨_, rfl⟩
  rw [← hg] at HK3'
  rw [← hgr] at HK3''
  obtain ⟨q0, q1, ql⟩ := blk2 HK3.out
  obtain ⟨r0, r1, r2, r3, r4, r5, rl⟩ := tab6 HK3'.out
  have HGR := Lib.hid hgr
  clear hP hY hps hct
  by_cases hvp : validP p
  case neg =>
    have HV := Lib.hid hvp
    have CP1 := CP.out w3 HB3.out false ⟨fun h => (by cases h), fun h => absurd h hvp⟩
    replace CP1 := Lib.hid CP1
    clear CV CP hvp
    go_enter Try.func12, Try.ntmps12
    go_upto_region 1 with fail
    rw [← hw1, ← hw2, ← hw3, ← hgr, ← hg]
    clear hw1 hw2 hw3 hs1 hs2 hg hgr
    go_wp2_with fail
    refine CP1.out.mono ?_
    rintro e w4 ⟨rfl, hb4⟩
    have HB4 := Lib.hid (HB3.out.trans (hb4.mono HB3.out.size))
    have HK4 := Lib.hid (HK3''.out.after hb4)
    clear hb4 q0 q1 ql r0 r1 r2 r3 r4 r5 rl
    obtain ⟨⟨c0, c1, c2, c3, c4, c5, c6, c7, c8, c9⟩, ⟨f0, f1, f2, f3, f4, f5, f6, f7, f8, f9⟩, cl⟩ := cells10 HK4.out
    obtain ⟨w5, hw5, HB5, HK5⟩ : ∃ z, z = put10 w4 gr (.slice none 0 0) (.slice none 0 0) (.slice none 0 0) (.slice none 0 0) (.slice none 0 0) (.slice none 0 0) (.slice none 0 0) (.slice none 0 0) (.slice none 0 0) (.slice none 0 0) ∧ Hid (Below w.heap.size w z) ∧ Hid (Blk z gr 42 #[.slice none 0 0, .slice none 0 0, .slice none 0 0, .slice none 0 0, .slice none 0 0, .slice none 0 0, .slice none 0 0, .slice none 0 0, .slice none 0 0, .slice none 0 0]) := ⟨_, rfl, Lib.hid (put10_below HB4.out (by rw [HGR.out]; omega)), Lib.hid (put10_blk HK4.out)⟩
    unfold put10 at hw5
    go_wp2
    rw [← hw5]
    clear hw5 c0 c1 c2 c3 c4 c5 c6 c7 c8 c9 f0 f1 f2 f3 f4 f5 f6 f7 f8 f9 cl
    obtain ⟨⟨c0, c1, c2, c3, c4, c5, c6, c7, c8, c9⟩, -, cl⟩ := cells10 HK5.out
    refine bodyPost_ret (v := .tuple #[.agg #[.slice none 0 0, .slice none 0 0, .slice none 0 0, .slice none 0 0, .slice none 0 0, .slice none 0 0, .slice none 0 0, .slice none 0 0, .slice none 0 0, .slice none 0 0], .int .i64 11]) ?_ rfl ⟨.inl ⟨fun h => HV.out h.1, rfl⟩, HB5.out⟩
    simp [results, Try.results12, go_sem, c0, c1, c2, c3, c4, c5, c6, c7, c8, c9]
  case pos =>
    have HVP := Lib.hid hvp
    have CP1 := CP.out w3 HB3.out true ⟨fun _ => hvp, fun _ => rfl⟩
    replace CP1 := Lib.hid CP1
    clear CP hvp
    by_cases hvt : validT t
    case neg =>
      have HV := Lib.hid hvt
      go_enter Try.func12, Try.ntmps12
      go_upto_region 1 with fail
      rw [← hw1, ← hw2, ← hw3, ← hgr, ← hg]
      clear hw1 hw2 hw3 hs1 hs2 hg hgr
      go_wp2_with fail
      refine CP1.out.mono ?_
      rintro e w4 ⟨rfl, hb4⟩
      have HB4 := Lib.hid (HB3.out.trans (hb4.mono HB3.out.size))
      have HKP := Lib.hid (HK3.out.after hb4)
      have HKT := Lib.hid (HK3'.out.after hb4)
      have HKR := Lib.hid (HK3''.out.after hb4)
      have CV1 := Lib.hid (CV.out w4 HB4.out false ⟨fun h => (by cases h), fun h => absurd h HV.out⟩)
      clear hb4 q0 q1 ql r0 r1 r2 r3 r4 r5 rl CV hvt
      obtain ⟨r0, r1, r2, r3, r4, r5, rl⟩ := tab6 HKT.out
      go_wp2_with fail
      refine CV1.out.mono ?_
      rintro e w5 ⟨rfl, hb5⟩
      have HB5 := Lib.hid (HB4.out.trans (hb5.mono HB4.out.size))
      have HKP5 := Lib.hid (HKP.out.after hb5)
      have HKT5 := Lib.hid (HKT.out.after hb5)
      have HKR5 := Lib.hid (HKR.out.after hb5)
      clear hb5 r0 r1 r2 r3 r4 r5 rl
      obtain ⟨⟨c0, c1, c2, c3, c4, c5, c6, c7, c8, c9⟩, ⟨f0, f1, f2, f3, f4, f5, f6, f7, f8, f9⟩, cl⟩ := cells10 HKR5.out
      obtain ⟨w6, hw6, HB6, HK6⟩ : ∃ z, z = put10 w5 gr (.slice none 0 0) (.slice none 0 0) (.slice none 0 0) (.slice none 0 0) (.slice none 0 0) (.slice none 0 0) (.slice none 0 0) (.slice none 0 0) (.slice none 0 0) (.slice none 0 0) ∧ Hid (Below w.heap.size w z) ∧ Hid (Blk z gr 42 #[.slice none 0 0, .slice none 0 0, .slice none 0 0, .slice none 0 0, .slice none 0 0, .slice none 0 0, .slice none 0 0, .slice none 0 0, .slice none 0 0, .slice none 0 0]) := ⟨_, rfl, Lib.hid (put10_below HB5.out (by rw [HGR.out]; omega)), Lib.hid (put10_blk HKR5.out)⟩
      unfold put10 at hw6
      go_wp2
      rw [← hw6]
      clear hw6 c0 c1 c2 c3 c4 c5 c6 c7 c8 c9 f0 f1 f2 f3 f4 f5 f6 f7 f8 f9 cl
      obtain ⟨⟨c0, c1, c2, c3, c4, c5, c6, c7, c8, c9⟩, -, cl⟩ := cells10 HK6.out
      refine bodyPost_ret (v := .tuple #[.agg #[.slice none 0 0, .slice none 0 0, .slice none 0 0, .slice none 0 0, .slice none 0 0, .slice none 0 0, .slice none 0 0, .slice none 0 0, .slice none 0 0, .slice none 0 0], .int .i64 11]) ?_ rfl ⟨.inl ⟨fun h => HV.out h.2, rfl⟩, HB6.out⟩
      simp [results, Try.results12, go_sem, c0, c1, c2, c3, c4, c5, c6, c7, c8, c9]
    case pos =>
      have HV := Lib.hid hvt
      go_enter Try.func12, Try.ntmps12
      go_upto_region 1 with fail
      rw [← hw1, ← hw2, ← hw3, ← hgr, ← hg]
      clear hw1 hw2 hw3 hs1 hs2 hg hgr
      go_wp2_with fail
      refine CP1.out.mono ?_
      rintro e w4 ⟨rfl, hb4⟩
      have HB4 := Lib.hid (HB3.out.trans (hb4.mono HB3.out.size))
      have HKP := Lib.hid (HK3.out.after hb4)
      have HKT := Lib.hid (HK3'.out.after hb4)
      have HKR := Lib.hid (HK3''.out.after hb4)
      have CV1 := Lib.hid (CV.out w4 HB4.out true ⟨fun _ => HV.out, fun _ => rfl⟩)
      clear hb4 q0 q1 ql r0 r1 r2 r3 r4 r5 rl CV hvt
      obtain ⟨r0, r1, r2, r3, r4, r5, rl⟩ := tab6 HKT.out
      go_wp2_with fail
      refine CV1.out.mono ?_
      rintro e w5 ⟨rfl, hb5⟩
      have HB5 := Lib.hid (HB4.out.trans (hb5.mono HB4.out.size))
      have HKP5 := Lib.hid (HKP.out.after hb5)
      have HKT5 := Lib.hid (HKT.out.after hb5)
      have HKR5 := Lib.hid (HKR.out.after hb5)
      clear hb5 r0 r1 r2 r3 r4 r5 rl
      obtain ⟨⟨c0, c1, c2, c3, c4, c5, c6, c7, c8, c9⟩, ⟨f0, f1, f2, f3, f4, f5, f6, f7, f8, f9⟩, cl⟩ := cells10 HKR5.out
      obtain ⟨w6, hw6, HB6, HK6⟩ : ∃ z, z = put10 w5 gr (.slice x.n p.names.length x.cn) (.slice x.s p.spans.length x.cs) (.slice y.c t.cls.length y.cc) (.slice y.a t.act.length y.ca) (.slice y.ln t.ln.length y.cln) (.slice y.lm t.lm.length y.clm) (.slice y.rn t.rn.length y.crn) (.slice y.rm t.rm.length y.crm) (.slice At n ct) (.slice none 0 0) ∧ Hid (Below w.heap.size w z) ∧ Hid (Blk z gr 42 #[.slice x.n p.names.length x.cn, .slice x.s p.spans.length x.cs, .slice y.c t.cls.length y.cc, .slice y.a t.act.length y.ca, .slice y.ln t.ln.length y.cln, .slice y.lm t.lm.length y.clm, .slice y.rn t.rn.length y.crn, .slice y.rm t.rm.length y.crm, .slice At n ct, .slice none 0 0]) := ⟨_, rfl, Lib.hid (put10_below HB5.out (by rw [HGR.out]; omega)), Lib.hid (put10_blk HKR5.out)⟩
      unfold put10 at hw6
      obtain ⟨q0, q1, ql⟩ := blk2 HKP5.out
      obtain ⟨r0, r1, r2, r3, r4, r5, rl⟩ := tab6 HKT5.out
      go_wp2
      rw [← hw6]
      clear hw6 c0 c1 c2 c3 c4 c5 c6 c7 c8 c9 f0 f1 f2 f3 f4 f5 f6 f7 f8 f9 cl
      obtain ⟨⟨c0, c1, c2, c3, c4, c5, c6, c7, c8, c9⟩, -, cl⟩ := cells10 HK6.out
      refine bodyPost_ret (v := .tuple #[.agg #[.slice x.n p.names.length x.cn, .slice x.s p.spans.length x.cs, .slice y.c t.cls.length y.cc, .slice y.a t.act.length y.ca, .slice y.ln t.ln.length y.cln, .slice y.lm t.lm.length y.clm, .slice y.rn t.rn.length y.crn, .slice y.rm t.rm.length y.crm, .slice At n ct, .slice none 0 0], .int .i64 0]) ?_ rfl ⟨.inr ⟨⟨HVP.out, HV.out⟩, rfl⟩, HB6.out⟩
      simp [results, Try.results12, go_sem, c0, c1, c2, c3, c4, c5, c6, c7, c8, c9]
end Go.Proofs.Ytkpblieanejmeaa
namespace Go.UtYtkpblieanejmeaa
open Go.RowKit
/-- the last row taken off -/
theorem Rows2.last {w : World} {B : Nat} {A : Option Addr} {Bf : List (List Int)} {Y : List Int} (h : Rows2 w B A (Bf ++ [Y])) : Rows2 w B A Bf ∧ ∃ b o A' c', A = some ⟨b, o, none⟩ ∧ b < B ∧ w.cell? ⟨b, o + Bf.length, none⟩ = some (.slice A' Y.length c') ∧ Y.length ≤ c' ∧ c' ≤ maxLen ∧ Row w B A' (ints Y) := by
  obtain ⟨vs, h1, h2, h3⟩ := h
  rw [List.length_append] at h1
  refine ⟨⟨vs.take Bf.length, by rw [List.length_take, h1]; simp, fun hne => ?_, fun k xs hk => ?_⟩, ?_⟩
  · obtain ⟨b, o, e, hb, hc⟩ := h2 (fun e => hne (by rw [e]; simp))
    refine ⟨b, o, e, hb, fun k v hk => hc k v ?_⟩
    rw [List.getElem?_take] at hk
    split at hk
    · exact hk
    · cases hk
  · have hlt := (List.getElem?_eq_some_iff.1 hk).1
    obtain ⟨A', c', g1, g2⟩ := h3 k xs (by rw [List.getElem?_append_left hlt]; exact hk)
    exact ⟨A', c', by rw [List.getElem?_take, if_pos hlt]; exact g1, g2⟩
  · obtain ⟨A', c', g1, g2, g3, g4⟩ := h3 Bf.length Y (by rw [List.getElem?_append_right (Nat.le_refl _), Nat.sub_self]; rfl)
    obtain ⟨b, o, e, hb, hc⟩ := h2 (fun e => by rw [e] at g1; simp at g1)
    exact ⟨b, o, A', c', e, hb, hc _ _ g1, g2, g3, g4⟩
/-- the two blocks of a call that takes and returns a document -/
theorem ref_boxes (w : World) (T : TypeId) (cs : Array Value) : ∃ w1 w2 g, w1 = w.alloc (.cells cs T) ∧ w2 = w1.alloc (.cells #[.slice none 0 0, .slice none 0 0, .slice none 0 0, .slice none 0 0, .slice none 0 0, .slice none 0 0, .slice none 0 0, .slice none 0 0, .slice none 0 0, .slice none 0 0] T) ∧ g = w.heap.size + 1 ∧ Hid (Below w.heap.size w w2) ∧ Hid (Blk w2 w.heap.size T cs) ∧ Hid (Blk w2 g T #[.slice none 0 0, .slice none 0 0, .slice none 0 0, .slice none 0 0, .slice none 0 0, .slice none 0 0, .slice none 0 0, .slice none 0 0, .slice none 0 0, .slice none 0 0]) := by
  obtain ⟨w1, hw1, HB1, HK1⟩ := boxV w T cs
  obtain ⟨w2, hw2, HB2', HK2'⟩ := boxV w1 T #[.slice none 0 0, .slice none 0 0, .slice none 0 0, .slice none 0 0, .slice none 0 0, .slice none 0 0, .slice none 0 0, .slice none 0 0, .slice none 0 0, .slice none 0 0]
  have hs1 : w1.heap.size = w.heap.size + 1 := by rw [hw1]; simp
  rw [hs1] at HK2'
  exact ⟨w1, w2, w.heap.size + 1, hw1, hw2, rfl, Lib.hid (HB1.out.trans (HB2'.out.mono HB1.out.size)), Lib.hid (HK1.out.after HB2'.out), HK2'⟩
end Go.UtYtkpblieanejmeaa
namespace Go.Proofs.Ytkpblieanejmeaa
open Go.RowKit Go.UtYtkpblieanejmeaa
/-- the first elements of a slice -/
theorem cut_h {P : Program} (w : World) (t : TypeId) (a : Option Addr) (len cap : Nat) (ht : P.underlying t = some (.slice (P.elem t))) (kh : IntKind) (h : Int) (h0 : 0 ≤ h) (h2 : h ≤ cap) :
    (Instr.slice t (.slice a len cap) none (some (.int kh h)) none).run P w = ((sizeOf (P.elem t)).run P w).andThen fun _ w => .ok (.slice a h.toNat cap) w := by
  rw [run_slice_h w t a len cap ht kh h h0 h2]
  congr 1
  funext s w
  unfold sliced
  have e : (if cap = 0 then a else a.map fun x => x.add (0 * s)) = a := by
    split
    · rfl
    · cases a <;> simp [Addr.add]
  rw [e]
  rfl
attribute [local go_sem high] cut_h
set_option maxRecDepth 100000 in
set_option maxHeartbeats 4000000 in
theorem rundo_no (v : Value) (p : PR) (t : BT) (X : List Int) (w : World) (h : RefAt w w.heap.size v p t X []) :
    Calls Try.prog 13 #[v] w fun e w' => e = .returned (.tuple #[v, .bool false]) ∧ Below w.heap.size w w' := by
  obtain ⟨x, y, At, cX, Ab, cB, rfl, -⟩ := h
  obtain ⟨n, hn⟩ : ∃ n, X.length = n := ⟨_, rfl⟩
  rw [hn]
  clear hn
  simp only [List.length_nil]
  obtain ⟨w1, w2, g, hw1, hw2, hgw, HB2, HK2, HR2⟩ := ref_boxes w 42 (refC x p y t At n cX Ab 0 cB)
  obtain ⟨⟨a0, a1⟩, ⟨a2, a3, a4, a5, a6, a7⟩, a8, a9, al⟩ := ref_cells HK2.out
  obtain ⟨⟨c0, c1, c2, c3, c4, c5, c6, c7, c8, c9⟩, ⟨f0, f1, f2, f3, f4, f5, f6, f7, f8, f9⟩, cl⟩ := cells10 HR2.out
  obtain ⟨w3, hw3, HB3, HK3⟩ : ∃ z, z = put10 w2 g (.slice x.n p.names.length x.cn) (.slice x.s p.spans.length x.cs) (.slice y.c t.cls.length y.cc) (.slice y.a t.act.length y.ca) (.slice y.ln t.ln.length y.cln) (.slice y.lm t.lm.length y.clm) (.slice y.rn t.rn.length y.crn) (.slice y.rm t.rm.length y.crm) (.slice At n cX) (.slice Ab 0 cB) ∧ Hid (Below w.heap.size w z) ∧ Hid (Blk z g 42 #[.slice x.n p.names.length x.cn, .slice x.s p.spans.length x.cs, .slice y.c t.cls.length y.cc, .slice y.a t.act.length y.ca, .slice y.ln t.ln.length y.cln, .slice y.lm t.lm.length y.clm, .slice y.rn t.rn.length y.crn, .slice y.rm t.rm.length y.crm, .slice At n cX, .slice Ab 0 cB]) := ⟨_, rfl, Lib.hid (put10_below HB2.out (by omega)), Lib.hid (put10_blk HR2.out)⟩
  unfold put10 at hw3
  unfold refC at hw1 ⊢
  go_enter Try.func13, Try.ntmps13
  go_upto_region 1 with fail
  rw [← hw1, ← hw2, ← hgw]
  clear hw1 hw2 hgw
  go_wp2
  rw [← hw3]
  clear hw3 c0 c1 c2 c3 c4 c5 c6 c7 c8 c9 f0 f1 f2 f3 f4 f5 f6 f7 f8 f9 cl a0 a1 a2 a3 a4 a5 a6 a7 a8 a9 al
  obtain ⟨⟨c0, c1, c2, c3, c4, c5, c6, c7, c8, c9⟩, -, cl⟩ := cells10 HK3.out
  refine bodyPost_ret (v := .tuple #[.agg #[.slice x.n p.names.length x.cn, .slice x.s p.spans.length x.cs, .slice y.c t.cls.length y.cc, .slice y.a t.act.length y.ca, .slice y.ln t.ln.length y.cln, .slice y.lm t.lm.length y.clm, .slice y.rn t.rn.length y.crn, .slice y.rm t.rm.length y.crm, .slice At n cX, .slice Ab 0 cB], .bool false]) ?_ rfl ⟨rfl, HB3.out⟩
  simp [results, Try.results13, go_sem, c0, c1, c2, c3, c4, c5, c6, c7, c8, c9]
/-- the call returns the document before its last edit -/
def RetRU (E : Nat → Prop) (w : World) (p : PR) (t : BT) (Y : List Int) (Bf : List (List Int)) (e : Ending) (w' : World) : Prop :=
  ∃ v', e = .returned (.tuple #[v', .bool true]) ∧ RefAt (era w' E) w'.heap.size v' p t Y Bf ∧ Below w.heap.size w w'
set_option maxRecDepth 100000 in
set_option maxHeartbeats 4000000 in
theorem rundo_any (E : Nat → Prop) (v : Value) (p : PR) (t : BT) (X Y : List Int) (Bf : List (List Int)) (w : World) (h : RefAt (era w E) w.heap.size v p t X (Bf ++ [Y])) (hl : Bf.length ≤ 1000) :
    Calls Try.prog 13 #[v] w (RetRU E w p t Y Bf) := by
  obtain ⟨x, y, At, cX, Ab, cB, rfl, h2, h3, h4, h5, h6⟩ := h
  obtain ⟨h7, b, o, A', c', rfl, hb, hcell, k1, k2, k3⟩ := h5.last
  obtain ⟨n, hn⟩ : ∃ n, X.length = n := ⟨_, rfl⟩
  obtain ⟨m, hm⟩ : ∃ n, Y.length = n := ⟨_, rfl⟩
  obtain ⟨k, hk⟩ : ∃ n, Bf.length = n := ⟨_, rfl⟩
  have hlen : (Bf ++ [Y]).length = k + 1 := by simp [hk]
  rw [hn, hlen]
  rw [hlen] at h6
  rw [hm, hk] at hcell
  rw [hm] at k1
  rw [hk] at hl
  have hcell' := (era_some hcell).1
  obtain ⟨w1, w2, g, hw1, hw2, hgw, HB2, HK2, HR2⟩ := ref_boxes w 42 (refC x p y t At n cX (some ⟨b, o, none⟩) (k + 1) cB)
  obtain ⟨⟨a0, a1⟩, ⟨a2, a3, a4, a5, a6, a7⟩, a8, a9, al⟩ := ref_cells HK2.out
  have d8 := HK2.out.free 8
  have d9 := HK2.out.free 9
  have hcell2 := (HB2.out.cell (p := ⟨b, o + k, none⟩) hb).trans hcell'
  have hb2 : b < w2.heap.size := by have := HB2.out.size; omega
  have hkb : Kept w.heap.size E w w2 := Kept.below (Nat.le_refl _) HB2.out
  obtain ⟨w3, hw3, HB3, HK3, HR3⟩ : ∃ z, z = w2.setCell ⟨w.heap.size, 8, none⟩ (.slice A' m c') ∧ Hid (Below w.heap.size w z) ∧ Hid (Blk z w.heap.size 42 (refC x p y t A' m c' (some ⟨b, o, none⟩) (k + 1) cB)) ∧ Hid (Blk z g 42 #[.slice none 0 0, .slice none 0 0, .slice none 0 0, .slice none 0 0, .slice none 0 0, .slice none 0 0, .slice none 0 0, .slice none 0 0, .slice none 0 0, .slice none 0 0]) := by
    refine ⟨_, rfl, Lib.hid (HB2.out.setCell (p := ⟨w.heap.size, 8, none⟩) (Nat.le_refl _) _), Lib.hid ?_, Lib.hid (HR2.out.far (p := ⟨w.heap.size, 8, none⟩) (by show g ≠ w.heap.size; omega) _)⟩
    have := HK2.out.set_ 8 (.slice A' m c')
    simpa [refC] using this
  obtain ⟨⟨z0, z1⟩, ⟨z2, z3, z4, z5, z6, z7⟩, z8, z9, zl⟩ := ref_cells HK3.out
  have y9 := HK3.out.free 9
  obtain ⟨w4, hw4, HB4, HK4, HR4⟩ : ∃ z, z = w3.setCell ⟨w.heap.size, 9, none⟩ (.slice (some ⟨b, o, none⟩) k cB) ∧ Hid (Below w.heap.size w z) ∧ Hid (Blk z w.heap.size 42 (refC x p y t A' m c' (some ⟨b, o, none⟩) k cB)) ∧ Hid (Blk z g 42 #[.slice none 0 0, .slice none 0 0, .slice none 0 0, .slice none 0 0, .slice none 0 0, .slice none 0 0, .slice none 0 0, .slice none 0 0, .slice none 0 0, .slice none 0 0]) := by
    refine ⟨_, rfl, Lib.hid (HB3.out.setCell (p := ⟨w.heap.size, 9, none⟩) (Nat.le_refl _) _), Lib.hid ?_, Lib.hid (HR3.out.far (p := ⟨w.heap.size, 9, none⟩) (by show g ≠ w.heap.size; omega) _)⟩
    have := HK3.out.set_ 9 (.slice (some ⟨b, o, none⟩) k cB)
    simpa [refC] using this
  obtain ⟨⟨e0, e1⟩, ⟨e2, e3, e4, e5, e6, e7⟩, e8, e9, el⟩ := ref_cells HK4.out
  obtain ⟨⟨c0, c1, c2, c3, c4, c5, c6, c7, c8, c9⟩, ⟨f0, f1, f2, f3, f4, f5, f6, f7, f8, f9⟩, cl⟩ := cells10 HR4.out
  obtain ⟨w5, hw5, HB5, HK5⟩ : ∃ z, z = put10 w4 g (.slice x.n p.names.length x.cn) (.slice x.s p.spans.length x.cs) (.slice y.c t.cls.length y.cc) (.slice y.a t.act.length y.ca) (.slice y.ln t.ln.length y.cln) (.slice y.lm t.lm.length y.clm) (.slice y.rn t.rn.length y.crn) (.slice y.rm t.rm.length y.crm) (.slice A' m c') (.slice (some ⟨b, o, none⟩) k cB) ∧ Hid (Below w.heap.size w z) ∧ Hid (Blk z g 42 #[.slice x.n p.names.length x.cn, .slice x.s p.spans.length x.cs, .slice y.c t.cls.length y.cc, .slice y.a t.act.length y.ca, .slice y.ln t.ln.length y.cln, .slice y.lm t.lm.length y.clm, .slice y.rn t.rn.length y.crn, .slice y.rm t.rm.length y.crm, .slice A' m c', .slice (some ⟨b, o, none⟩) k cB]) := ⟨_, rfl, Lib.hid (put10_below HB4.out (by omega)), Lib.hid (put10_blk HR4.out)⟩
  have HRA : Hid (RefAt (era w5 E) w5.heap.size (.agg #[.slice x.n p.names.length x.cn, .slice x.s p.spans.length x.cs, .slice y.c t.cls.length y.cc, .slice y.a t.act.length y.ca, .slice y.ln t.ln.length y.cln, .slice y.lm t.lm.length y.clm, .slice y.rn t.rn.length y.crn, .slice y.rm t.rm.length y.crm, .slice A' m c', .slice (some ⟨b, o, none⟩) k cB]) p t Y Bf) := Lib.hid (by
    have hkk : Kept w.heap.size E w w5 := Kept.below (Nat.le_refl _) HB5.out
    refine RefAt.kept (w := w) (E := E) ⟨x, y, A', c', some ⟨b, o, none⟩, cB, by rw [hm, hk]; rfl, h2, h3, ⟨k3, by rw [hm]; exact k1, k2⟩, h7, by rw [hk]; omega, h6.2⟩ hkk (Grew.refl _ _))
  unfold put10 at hw5
  unfold refC at hw1 ⊢
  have kk1 := h6.1
  clear h2 h3 h4 h5 h6 h7 hcell hcell' k1 k2 k3 hn hm hk hlen hkb
  go_enter Try.func13, Try.ntmps13
  go_upto_region 1 with fail
  rw [← hw1, ← hw2, ← hgw]
  clear hw1 hw2 hgw
  go_upto_region 5 with fail
  rw [← hw3]
  clear hw3 a0 a1 a2 a3 a4 a5 a6 a7 a8 a9 al d8 d9 hcell2 hb2
  go_upto_region 6 with fail
  rw [← hw4]
  clear hw4 z0 z1 z2 z3 z4 z5 z6 z7 z8 z9 zl y9
  go_wp2
  rw [← hw5]
  clear hw5 c0 c1 c2 c3 c4 c5 c6 c7 c8 c9 f0 f1 f2 f3 f4 f5 f6 f7 f8 f9 cl e0 e1 e2 e3 e4 e5 e6 e7 e8 e9 el
  obtain ⟨⟨c0, c1, c2, c3, c4, c5, c6, c7, c8, c9⟩, -, cl⟩ := cells10 HK5.out
  refine bodyPost_ret (v := .tuple #[.agg #[.slice x.n p.names.length x.cn, .slice x.s p.spans.length x.cs, .slice y.c t.cls.length y.cc, .slice y.a t.act.length y.ca, .slice y.ln t.ln.length y.cln, .slice y.lm t.lm.length y.clm, .slice y.rn t.rn.length y.crn, .slice y.rm t.rm.length y.crm, .slice A' m c', .slice (some ⟨b, o, none⟩) k cB], .bool true]) ?_ rfl ⟨_, rfl, HRA.out, HB5.out⟩
  simp [results, Try.results13, go_sem, c0, c1, c2, c3, c4, c5, c6, c7, c8, c9]
end Go.Proofs.Ytkpblieanejmeaa
namespace Go.UtYtkpblieanejmeaa
open Go.RowKit
/-- the four blocks of a call of the reference's Edit -/
theorem red_boxes (w : World) (cs : Array Value) (v0 v1 v2 : Value) : ∃ w1 w2 w3 w4 g1 g2 g3, w1 = w.alloc (.cells cs 42) ∧ w2 = w1.alloc (.cells #[v0, v1, v2] 46) ∧ w3 = w2.alloc (.cells #[.slice none 0 0, .slice none 0 0, .slice none 0 0, .slice none 0 0, .slice none 0 0, .slice none 0 0, .slice none 0 0, .slice none 0 0, .slice none 0 0, .slice none 0 0] 42) ∧ w4 = w3.alloc (.cells #[.int .i64 0, .int .i64 0] 52) ∧
    g1 = w.heap.size + 1 ∧ g2 = w.heap.size + 1 + 1 ∧ g3 = w.heap.size + 1 + 1 + 1 ∧ Hid (Below w.heap.size w w4) ∧ Hid (Blk w4 w.heap.size 42 cs) ∧ Hid (Blk w4 g1 46 #[v0, v1, v2]) ∧ Hid (Blk w4 g2 42 #[.slice none 0 0, .slice none 0 0, .slice none 0 0, .slice none 0 0, .slice none 0 0, .slice none 0 0, .slice none 0 0, .slice none 0 0, .slice none 0 0, .slice none 0 0]) ∧ Hid (Blk w4 g3 52 #[.int .i64 0, .int .i64 0]) := by
  obtain ⟨w1, hw1, HB1, HK1⟩ := boxV w 42 cs
  obtain ⟨w2, hw2, HB2, HK2⟩ := boxV w1 46 #[v0, v1, v2]
  obtain ⟨w3, hw3, HB3, HK3⟩ := boxV w2 42 #[.slice none 0 0, .slice none 0 0, .slice none 0 0, .slice none 0 0, .slice none 0 0, .slice none 0 0, .slice none 0 0, .slice none 0 0, .slice none 0 0, .slice none 0 0]
  obtain ⟨w4, hw4, HB4, HK4⟩ := boxV w3 52 #[.int .i64 0, .int .i64 0]
  have hs1 : w1.heap.size = w.heap.size + 1 := by rw [hw1]; simp
  have hs2 : w2.heap.size = w.heap.size + 1 + 1 := by rw [hw2, World.size_alloc, hs1]
  have hs3 : w3.heap.size = w.heap.size + 1 + 1 + 1 := by rw [hw3, World.size_alloc, hs2]
  rw [hs1] at HK2
  rw [hs2] at HK3
  rw [hs3] at HK4
  have b2 := HB2.out
  have b3 := HB3.out
  have b4 := HB4.out
  exact ⟨w1, w2, w3, w4, _, _, _, hw1, hw2, hw3, hw4, rfl, rfl, rfl, Lib.hid (HB1.out.trans ((b2.trans ((b3.trans (b4.mono b3.size)).mono b2.size)).mono HB1.out.size)), Lib.hid (((HK1.out.after b2).after b3).after b4), Lib.hid ((HK2.out.after b3).after b4), Lib.hid (HK3.out.after b4), HK4⟩
/-- a row of ints is no part of a block of slices -/
theorem row_not_ref {w : World} {B g T : Nat} {A : Option Addr} {xs : List Int} {cs : Array Value} (h : Row w B A (ints xs)) (hb : Blk w g T cs) (hc : ∀ v ∈ cs.toList, ∃ a n c, v = Value.slice a n c) : ints xs ≠ [] → ∀ b o, A = some ⟨b, o, none⟩ → b ≠ g := fun hne b o e hbg => by
  obtain ⟨b', o', e', _, hcell⟩ := h hne
  rw [e] at e'
  injection e' with e'
  injection e' with e1 e2
  subst e1 e2 hbg
  cases xs with
  | nil => exact hne rfl
  | cons x xs =>
    have h1 := hcell 0 (.int .i64 x) rfl
    rw [hb.cell] at h1
    have h2 : cs.toList[o + 0]? = some (.int .i64 x) := by simpa using h1
    obtain ⟨a, n, c, hv⟩ := hc _ (List.mem_of_getElem? h2)
    cases hv
theorem refC_slices (x : PA) (p : PR) (y : TA) (t : BT) (A1 : Option Addr) (n1 c1 : Nat) (A2 : Option Addr) (n2 c2 : Nat) : ∀ v ∈ (refC x p y t A1 n1 c1 A2 n2 c2).toList, ∃ a n c, v = Value.slice a n c := by
  intro v hv
  simp [refC] at hv
  rcases hv with rfl | rfl | rfl | rfl | rfl | rfl | rfl | rfl | rfl | rfl <;> exact ⟨_, _, _, rfl⟩
end Go.UtYtkpblieanejmeaa
namespace Go.Proofs.Ytkpblieanejmeaa
open Go.RowKit Go.UtYtkpblieanejmeaa
set_option maxRecDepth 100000 in
set_option maxHeartbeats 4000000 in
theorem redit_no (a b : Int) (v : Value) (p : PR) (t : BT) (X : List Int) (Bf : List (List Int)) (A : Option Addr) (m c n : Nat) (w : World) (h : RefAt w w.heap.size v p t X Bf) (hn : X.length = n) (hc : checkB a b n = 1) :
    Calls Try.prog 15 #[v, .agg #[.int .i64 a, .int .i64 b, .slice A m c]] w fun e w' => e = .returned (.tuple #[v, .agg #[.int .i64 0, .int .i64 0], .int .i64 1]) ∧ Below w.heap.size w w' := by
  obtain ⟨x, y, At, cX, Ab, cB, rfl, -⟩ := h
  obtain ⟨nb, hnb⟩ : ∃ n, Bf.length = n := ⟨_, rfl⟩
  rw [hn, hnb]
  have CA := Lib.hid (fun (u : World) => apply2_no a b A At m c cX n u hc)
  unfold RetInts2 at CA
  obtain ⟨w1, w2, w3, w4, g1, g2, g3, hw1, hw2, hw3, hw4, hg1, hg2, hg3, HB4, HK4, HE4, HR4, HG4⟩ := red_boxes w (refC x p y t At n cX Ab nb cB) (.int .i64 a) (.int .i64 b) (.slice A m c)
  obtain ⟨⟨a0, a1⟩, ⟨a2, a3, a4, a5, a6, a7⟩, a8, a9, al⟩ := ref_cells HK4.out
  obtain ⟨q0, q1, q2⟩ := HE4.out.cells3
  have ql := HE4.out.lt
  unfold refC at hw1 ⊢
  clear hn hnb hc
  go_enter Try.func15, Try.ntmps15
  go_upto_region 1 with fail
  rw [← hw1, ← hw2, ← hw3, ← hw4, ← hg3, ← hg2, ← hg1]
  have HG2 := Lib.hid hg2
  have HG3 := Lib.hid hg3
  clear hw1 hw2 hw3 hw4 hg1 hg2 hg3
  go_wp2_with fail
  refine (CA.out w4).mono ?_
  rintro e w5 ⟨A3, c3, rfl, k1, k2, hr3, hn3, hb5⟩
  have HB5 := Lib.hid (HB4.out.trans (hb5.mono HB4.out.size))
  have HK5 := Lib.hid (HK4.out.after hb5)
  have HR5 := Lib.hid (HR4.out.after hb5)
  have HG5 := Lib.hid (HG4.out.after hb5)
  clear hb5 hr3 hn3 k1 k2 a0 a1 a2 a3 a4 a5 a6 a7 a8 a9 al q0 q1 q2 ql CA
  obtain ⟨⟨a0, a1⟩, ⟨a2, a3, a4, a5, a6, a7⟩, a8, a9, al⟩ := ref_cells HK5.out
  obtain ⟨⟨c0, c1, c2, c3, c4, c5, c6, c7, c8, c9⟩, ⟨f0, f1, f2, f3, f4, f5, f6, f7, f8, f9⟩, cl⟩ := cells10 HR5.out
  obtain ⟨w6, hw6, HB6, HR6, HG6⟩ : ∃ z, z = put10 w5 g2 (.slice x.n p.names.length x.cn) (.slice x.s p.spans.length x.cs) (.slice y.c t.cls.length y.cc) (.slice y.a t.act.length y.ca) (.slice y.ln t.ln.length y.cln) (.slice y.lm t.lm.length y.clm) (.slice y.rn t.rn.length y.crn) (.slice y.rm t.rm.length y.crm) (.slice At n cX) (.slice Ab nb cB) ∧ Hid (Below w.heap.size w z) ∧ Hid (Blk z g2 42 #[.slice x.n p.names.length x.cn, .slice x.s p.spans.length x.cs, .slice y.c t.cls.length y.cc, .slice y.a t.act.length y.ca, .slice y.ln t.ln.length y.cln, .slice y.lm t.lm.length y.clm, .slice y.rn t.rn.length y.crn, .slice y.rm t.rm.length y.crm, .slice At n cX, .slice Ab nb cB]) ∧ Hid (Blk z g3 52 #[.int .i64 0, .int .i64 0]) :=
    ⟨_, rfl, Lib.hid (put10_below HB5.out (by rw [HG2.out]; omega)), Lib.hid (put10_blk HR5.out), Lib.hid ((put10_keep g3 (by rw [HG2.out, HG3.out]; omega)).trans HG5.out)⟩
  obtain ⟨s0, s1, sl⟩ := blk2 HG6.out
  have t0 := HG6.out.free 0
  have t1 := HG6.out.free 1
  obtain ⟨w7, hw7, HB7, HR7, HG7⟩ : ∃ z, z = (w6.setCell ⟨g3, 0, none⟩ (.int .i64 0)).setCell ⟨g3, 1, none⟩ (.int .i64 0) ∧ Hid (Below w.heap.size w z) ∧ Hid (Blk z g2 42 #[.slice x.n p.names.length x.cn, .slice x.s p.spans.length x.cs, .slice y.c t.cls.length y.cc, .slice y.a t.act.length y.ca, .slice y.ln t.ln.length y.cln, .slice y.lm t.lm.length y.clm, .slice y.rn t.rn.length y.crn, .slice y.rm t.rm.length y.crm, .slice At n cX, .slice Ab nb cB]) ∧ Hid (Blk z g3 52 #[.int .i64 0, .int .i64 0]) :=
    ⟨_, rfl, Lib.hid ((HB6.out.setCell (p := ⟨g3, 0, none⟩) (by show _ ≤ g3; rw [HG3.out]; omega) _).setCell (p := ⟨g3, 1, none⟩) (by show _ ≤ g3; rw [HG3.out]; omega) _), Lib.hid ((HR6.out.far (p := ⟨g3, 0, none⟩) (by show g2 ≠ g3; rw [HG2.out, HG3.out]; omega) _).far (p := ⟨g3, 1, none⟩) (by show g2 ≠ g3; rw [HG2.out, HG3.out]; omega) _), Lib.hid ((HG6.out.set_ 0 _).set_ 1 _)⟩
  unfold put10 at hw6
  replace hw6 := hw6.symm
  go_wp2
  rw [← hw7]
  obtain ⟨⟨j0, j1, j2, j3, j4, j5, j6, j7, j8, j9⟩, -, jl⟩ := cells10 HR7.out
  obtain ⟨i0, i1, il⟩ := blk2 HG7.out
  clear hw6 hw7 c0 c1 c2 c3 c4 c5 c6 c7 c8 c9 f0 f1 f2 f3 f4 f5 f6 f7 f8 f9 cl a0 a1 a2 a3 a4 a5 a6 a7 a8 a9 al s0 s1 sl t0 t1
  refine bodyPost_ret (v := .tuple #[.agg #[.slice x.n p.names.length x.cn, .slice x.s p.spans.length x.cs, .slice y.c t.cls.length y.cc, .slice y.a t.act.length y.ca, .slice y.ln t.ln.length y.cln, .slice y.lm t.lm.length y.clm, .slice y.rn t.rn.length y.crn, .slice y.rm t.rm.length y.crm, .slice At n cX, .slice Ab nb cB], .agg #[.int .i64 0, .int .i64 0], .int .i64 1]) ?_ rfl ⟨rfl, HB7.out⟩
  simp [results, Try.results15, go_sem, j0, j1, j2, j3, j4, j5, j6, j7, j8, j9, i0, i1]
/-- the call returns the edited document, and the range outside of which boundaries have only moved -/
def RetRE (E : Nat → Prop) (w : World) (p : PR) (t : BT) (X : List Int) (Bf : List (List Int)) (i d : Nat) (ins : List Int) (e : Ending) (w' : World) : Prop :=
  ∃ (v' : Value) (lo hi : Nat), e = .returned (.tuple #[v', .agg #[.int .i64 (lo : Int), .int .i64 (hi : Int)], .int .i64 0]) ∧ IsLo (bndL p t X) (bndL p t (apN i d ins X)) i lo ∧
    IsHi (bndL p t X) (bndL p t (apN i d ins X)) (i + ins.length) (apN i d ins X).length ((ins.length : Int) - (d : Int)) hi ∧
    RefAt (era w' E) w'.heap.size v' p t (apN i d ins X) (Bf ++ [X]) ∧ Below w.heap.size w w'
set_option maxRecDepth 100000 in
set_option maxHeartbeats 4000000 in
theorem redit_any (E : Nat → Prop) (v : Value) (p : PR) (t : BT) (X : List Int) (Bf : List (List Int)) (i d : Nat) (ins : List Int) (A : Option Addr) (m c : Nat) (w : World) (h : RefAt (era w E) w.heap.size v p t X Bf) (hE : ∀ b, E b → b < w.heap.size) (hA : Row w w.heap.size A (ints ins)) (hm : ins.length = m)
    (hU : Bf.length ≤ 1000) (hid : i + d ≤ X.length) (hl : X.length + ins.length ≤ 10000) (hsp : p.spans.length ≤ 100000) (hsm : t.cls.length ≤ 1000 ∧ t.act.length ≤ 1000) :
    Calls Try.prog 15 #[v, .agg #[.int .i64 (i : Int), .int .i64 (d : Int), .slice A m c]] w (RetRE E w p t X Bf i d ins) := by
  have hra := h.of_era
  obtain ⟨x, y, At, cX, Ab, cB, rfl, h2, h3, h4, h5, h6⟩ := h
  obtain ⟨X', hX'⟩ : ∃ X', apN i d ins X = X' := ⟨_, rfl⟩
  unfold RetRE
  rw [hX', hm]
  obtain ⟨n, hn⟩ : ∃ n, X.length = n := ⟨_, rfl⟩
  obtain ⟨n', hn'⟩ : ∃ n, X'.length = n := ⟨_, rfl⟩
  obtain ⟨k, hk⟩ : ∃ n, Bf.length = n := ⟨_, rfl⟩
  have hnd : n' + d = n + m := by
    have := apN_len (ins := ins) hid
    rw [hX', hn'] at this
    omega
  have hnn : n' ≤ 10000 := by omega
  have hin : i + d ≤ n := by omega
  have hn10 : n + m ≤ 10000 := by omega
  have hib : i + m ≤ n' := by omega
  have hin' : i ≤ n := by omega
  have hnd' : n' + d ≤ n + m := by omega
  rw [hn']
  have hap : appZ i d ins X = (X', 0) := by
    unfold appZ
    rw [if_neg (by rw [checkB_ok hid (by omega)]; decide)]
    rw [← hX']
    rfl
  obtain ⟨us, hus, heu⟩ := h5.elt
  have hul : us.length = k := heu.1.trans hk
  have CA0 := fun (u : World) (hu : Below w.heap.size w u) => apply2_all i d A At c cX u.heap.size ins X u ((hA.below hu).more hu.size) ((h4.1.of_era.below hu).more hu.size) (Nat.le_refl _) h4.2.1 (by omega) X' 0 hap
  unfold RetInts2 at CA0
  rw [hm, hn, hn'] at CA0
  obtain ⟨b0, hb0⟩ : ∃ b, bndL p t X = b := ⟨_, rfl⟩
  obtain ⟨b1, hb1⟩ : ∃ b, bndL p t X' = b := ⟨_, rfl⟩
  have hbl0 := bnd_len p t X
  have hbl1 := bnd_len p t X'
  rw [hn, hb0] at hbl0
  rw [hn', hb1] at hbl1
  obtain ⟨nb0, hnb0⟩ : ∃ k, b0.length = k := ⟨_, rfl⟩
  obtain ⟨nb1, hnb1⟩ : ∃ k, b1.length = k := ⟨_, rfl⟩
  rw [hnb0] at hbl0
  rw [hnb1] at hbl1
  have CB0 := fun (u : World) (hu : Below w.heap.size w u) => rB_any _ p t X Bf u ((hra.below hu).more hu.size) (by omega) hsp hsm
  unfold RetI refC at CB0
  rw [hb0, hnb0, hn, hk] at CB0
  have CA := Lib.hid CA0
  have CB := Lib.hid CB0
  have HSP := Lib.hid (And.intro hsp hsm)
  have HN := Lib.hid hn
  have HN' := Lib.hid hn'
  have HK := Lib.hid hk
  have HEE := Lib.hid hE
  have HP := Lib.hid h2
  have HT := Lib.hid h3
  have HXR := Lib.hid h4
  have HUR := Lib.hid hus
  have HEU := Lib.hid heu
  have HUL := Lib.hid hul
  have HU1 := Lib.hid heu.one
  have HB0 := Lib.hid hb0
  have HB1 := Lib.hid hb1
  have HNB0 := Lib.hid hnb0
  have HNB1 := Lib.hid hnb1
  rw [hk] at h6 hU
  have H6 := Lib.hid h6
  rw [hn, hk]
  rw [hb0, hb1]
  obtain ⟨i0, hi0, hz0, hz1, hz2⟩ := info_parts ints_inf
  obtain ⟨w1, w2, w3, w4, g1, g2, g3, hw1, hw2, hw3, hw4, hg1, hg2, hg3, HB4, HK4, HE4, HR4, HG4⟩ := red_boxes w (refC x p y t At n cX Ab k cB) (.int .i64 (i : Int)) (.int .i64 (d : Int)) (.slice A m c)
  obtain ⟨⟨a0, a1⟩, ⟨a2, a3, a4, a5, a6, a7⟩, a8, a9, al⟩ := ref_cells HK4.out
  obtain ⟨q0, q1, q2⟩ := HE4.out.cells3
  have ql := HE4.out.lt
  unfold refC at hw1 ⊢
  clear hra h2 h3 h4 h5 h6 hX' hm hn hn' hk hnd hin hap hus heu hul CA0 CB0 hb0 hb1 hnb0 hnb1 hsp hsm hE hid hl hA
  go_enter Try.func15, Try.ntmps15
  go_upto_region 1 with fail
  rw [← hw1, ← hw2, ← hw3, ← hw4, ← hg3, ← hg2, ← hg1]
  have HG1 := Lib.hid hg1
  have HG2 := Lib.hid hg2
  have HG3 := Lib.hid hg3
  clear hw1 hw2 hw3 hw4 hg1 hg2 hg3
  go_wp2_with fail
  refine (CA.out w4 HB4.out).mono ?_
  rintro e w5 ⟨A3, c3, rfl, k1, k2, hr3, hn3, hb5⟩
  have HB45 := Lib.hid hb5
  have HB5 := Lib.hid (HB4.out.trans (hb5.mono HB4.out.size))
  have HK5 := Lib.hid (HK4.out.after hb5)
  have HE5 := Lib.hid (HE4.out.after hb5)
  have HR5 := Lib.hid (HR4.out.after hb5)
  have HG5 := Lib.hid (HG4.out.after hb5)
  have HX5 := Lib.hid (And.intro hr3 hn3)
  have HC3 := Lib.hid (And.intro k1 k2)
  clear hb5 hr3 hn3 k1 k2 a0 a1 a2 a3 a4 a5 a6 a7 a8 a9 al q0 q1 q2 ql CA
  obtain ⟨⟨a0, a1⟩, ⟨a2, a3, a4, a5, a6, a7⟩, a8, a9, al⟩ := ref_cells HK5.out
  go_wp2_with fail
  refine (CB.out w5 HB5.out).mono ?_
  rintro e w6 ⟨Ao, co, rfl, k1, k2, hro, hb6⟩
  have HB56 := Lib.hid hb6
  have HB6 := Lib.hid (HB5.out.trans (hb6.mono HB5.out.size))
  have HK6 := Lib.hid (HK5.out.after hb6)
  have HE6 := Lib.hid (HE5.out.after hb6)
  have HR6 := Lib.hid (HR5.out.after hb6)
  have HG6 := Lib.hid (HG5.out.after hb6)
  have HO6 := Lib.hid hro
  clear hb6 hro k1 k2 a0 a1 a2 a3 a4 a5 a6 a7 a8 a9 al CB
  obtain ⟨⟨a0, a1⟩, ⟨a2, a3, a4, a5, a6, a7⟩, a8, a9, al⟩ := ref_cells HK6.out
  go_upto_region 10 with (first
    | (at_builtin
       refine wpList_append_row _ rfl (.tmp 34) (.tmp 36) _ rfl w6.heap.size 26 i0 _ 1 24 Try.underlying27 hi0 hz0 hz1 hz2 rfl (by omega) (.slice none 0 0) 0 [] rfl (own_nil _) _ Ab k cB us rfl (by rw [HUL.out]; omega) (HUR.out.of_era.below HB6.out) HU1.out (by simp only [maxLen]; omega) (by omega) (Nat.le_refl _) ?_
       intro q7 w7 o7 g7 t7
       rw [Nat.zero_add, List.nil_append] at o7
       have hb7 : Below w6.heap.size w6 w7 := (Below.refl _ _).grown g7 (Nat.le_refl _) (fun g hg => by simp [Value.ownBlock] at hg)
       have HB67 := Lib.hid hb7
       have HK7 := Lib.hid (HK6.out.after hb7)
       have HO7 := Lib.hid o7
       obtain ⟨d0, d1, d8, d9, dl⟩ : w7.cell? ⟨w.heap.size, 8, none⟩ = some (.slice At n cX) ∧ w7.cell? ⟨w.heap.size, 9, none⟩ = some (.slice Ab k cB) ∧ True ∧ True ∧ w.heap.size < w7.heap.size := ⟨(hb7.cell (p := ⟨w.heap.size, 8, none⟩) al).trans a8, (hb7.cell (p := ⟨w.heap.size, 9, none⟩) al).trans a9, trivial, trivial, by have := hb7.size; omega⟩
       clear o7 g7 t7 hb7 d8 d9)
    | (at_builtin
       refine wpList_append_row _ rfl (.tmp 38) (.tmp 41) _ rfl w6.heap.size 26 i0 _ 1 24 Try.underlying27 hi0 hz0 hz1 hz2 rfl (by omega) q7 k us rfl (ow_alloc HO7.out _) _ _ 1 1 [.slice At n cX] rfl rfl (row_lit w7 _ _) (by simp [Value.oneCell']) (by simp only [maxLen]; omega) (by omega) (by have := HB67.out.size; simp; omega) ?_
       intro q9 w9 o9 g9 t9
       obtain ⟨A9, c9, rfl⟩ := ow_slice (m := k + 1) o9 rfl
       have hb9 : Below w6.heap.size w6 w9 := (HB67.out.alloc HB67.out.size _).grown g9 (by have := HB67.out.size; simp; omega) (fun g hg => own_base HO7.out g hg)
       have HB69 := Lib.hid hb9
       have HK9 := Lib.hid (HK6.out.after hb9)
       have HO9 := Lib.hid o9
       clear o9 g9 t9 hb9 d0 d1 dl))
  have hm49 : w4.heap.size ≤ w6.heap.size := Nat.le_trans HB45.out.size HB56.out.size
  have h04 : w.heap.size < w4.heap.size := HK4.out.lt
  obtain ⟨E', hE'⟩ : ∃ E' : Nat → Prop, E' = fun b => E b ∨ (w.heap.size ≤ b ∧ b < w4.heap.size) := ⟨_, rfl⟩
  have HE'4 : Hid (∀ b, E' b → b < w4.heap.size) := Lib.hid (fun b hb => by
    rw [hE'] at hb
    rcases hb with hb | hb
    · have := HEE.out b hb
      omega
    · exact hb.2)
  have HE'0 : Hid (∀ b, b < w.heap.size → E' b → E b) := Lib.hid (fun b hlt hb => by
    rw [hE'] at hb
    rcases hb with hb | hb
    · exact hb
    · omega)
  have HE'E : Hid (∀ b, E b → E' b) := Lib.hid (fun b hb => by rw [hE']; exact .inl hb)
  have HE'g : Hid (∀ b, w.heap.size ≤ b → b < w4.heap.size → E' b) := Lib.hid (fun b h1 h2 => by rw [hE']; exact .inr ⟨h1, h2⟩)
  obtain ⟨⟨s0, s1⟩, ⟨s2, s3, s4, s5, s6, s7⟩, s8, s9, sl⟩ := ref_cells HK9.out
  have sf8 := HK9.out.free 8
  have sf9 := HK9.out.free 9
  obtain ⟨w11, hw11, HB11, HK11, HE11, HR11, HG11, HO11, HRF11⟩ : ∃ z, z = (w9.setCell ⟨w.heap.size, 9, none⟩ (.slice A9 (k + 1) c9)).setCell ⟨w.heap.size, 8, none⟩ (.slice A3 n' c3) ∧ Hid (Below w.heap.size w z) ∧ Hid (Blk z w.heap.size 42 (refC x p y t A3 n' c3 A9 (k + 1) c9)) ∧ Hid (Blk z g1 46 #[.int .i64 (i : Int), .int .i64 (d : Int), .slice A m c]) ∧ Hid (Blk z g2 42 #[.slice none 0 0, .slice none 0 0, .slice none 0 0, .slice none 0 0, .slice none 0 0, .slice none 0 0, .slice none 0 0, .slice none 0 0, .slice none 0 0, .slice none 0 0]) ∧ Hid (Blk z g3 52 #[.int .i64 0, .int .i64 0]) ∧ Hid (Row z z.heap.size Ao (ints b0)) ∧
      Hid (RefAt (era z E') z.heap.size (.agg (refC x p y t A3 n' c3 A9 (k + 1) c9)) p t X' (Bf ++ [X])) := by
    have hq : ∀ b, b ≠ w.heap.size → ((w9.setCell ⟨w.heap.size, 9, none⟩ (.slice A9 (k + 1) c9)).setCell ⟨w.heap.size, 8, none⟩ (.slice A3 n' c3)).heap[b]? = w9.heap[b]? := fun b hb => (Below.heap_setCell _ _ _ b hb).trans (Below.heap_setCell _ _ _ b hb)
    have hz : ((w9.setCell ⟨w.heap.size, 9, none⟩ (.slice A9 (k + 1) c9)).setCell ⟨w.heap.size, 8, none⟩ (.slice A3 n' c3)).heap.size = w9.heap.size := by simp [World.setCell]
    have hbw : Below w.heap.size w ((w9.setCell ⟨w.heap.size, 9, none⟩ (.slice A9 (k + 1) c9)).setCell ⟨w.heap.size, 8, none⟩ (.slice A3 n' c3)) := ((HB6.out.trans (HB69.out.mono HB6.out.size)).setCell (p := ⟨w.heap.size, 9, none⟩) (Nat.le_refl _) _).setCell (p := ⟨w.heap.size, 8, none⟩) (Nat.le_refl _) _
    have hkw : Kept w.heap.size E w ((w9.setCell ⟨w.heap.size, 9, none⟩ (.slice A9 (k + 1) c9)).setCell ⟨w.heap.size, 8, none⟩ (.slice A3 n' c3)) := Kept.below (Nat.le_refl _) hbw
    have hgw : Grew w E E' := fun b hb => by
      by_cases hlt : b < w.heap.size
      · exact .inl (HE'0.out b hlt hb)
      · exact .inr (by omega)
    have h1 := HG1.out
    have h2 := HG2.out
    have h3 := HG3.out
    refine ⟨_, rfl, Lib.hid hbw, Lib.hid ?_, Lib.hid ((hq g1 (by omega)).trans (HE6.out.after HB69.out)), Lib.hid ((hq g2 (by omega)).trans (HR6.out.after HB69.out)), Lib.hid ((hq g3 (by omega)).trans (HG6.out.after HB69.out)), Lib.hid ?_, Lib.hid ?_⟩
    · have := (HK9.out.set_ 9 (.slice A9 (k + 1) c9)).set_ 8 (.slice A3 n' c3)
      simpa [refC] using this
    · intro hne
      have hnb := row_not_ref HO6.out HK6.out (refC_slices _ _ _ _ _ _ _ _ _ _) hne
      obtain ⟨b, o, e, hb, hcell⟩ := (HO6.out.below HB69.out) hne
      exact ⟨b, o, e, by rw [hz]; have := HB69.out.size; omega, fun j v hj => (World.cell?_of_block (a := ⟨b, o + j, none⟩) (hq b (hnb b o e))).trans (hcell j v hj)⟩
    · rw [hz]
      refine ⟨x, y, A3, c3, A9, c9, by rw [HN'.out, List.length_append, HK.out]; rfl, ?_, ?_, ⟨?_, ?_, ?_⟩, ⟨us ++ [.slice At n cX], ?_, ?_, fun j xs hj => ?_⟩, ?_, ?_⟩
      · have := HP.out.kept hkw hgw
        rwa [hz] at this
      · have := HT.out.kept hkw hgw
        rwa [hz] at this
      · have hr : Row w9 w9.heap.size A3 (ints X') := ((HX5.out.1.below HB56.out).more HB56.out.size |>.below HB69.out).more HB69.out.size
        have hre := hr.era_new (E := E') HX5.out.2 HE'4.out
        exact hre.era_keep (fun b _ hb => hq b (fun e => hb (e ▸ HE'g.out _ (Nat.le_refl _) h04))) (fun _ _ h => h)
      · rw [HN'.out]
        exact HC3.out.1
      · exact HC3.out.2
      · rw [List.length_append, List.length_append, HUL.out, HK.out]
        rfl
      · have hre := ow_era (E := E') HO9.out (fun b hb hb' => by
          have h1 := own_base HO9.out b hb
          have h2 := HE'4.out b hb'
          omega)
        exact hre.era_keep (fun b _ hb => hq b (fun e => hb (e ▸ HE'g.out _ (Nat.le_refl _) h04))) (fun _ _ h => h)
      · by_cases hjk : j < k
        · rw [List.getElem?_append_left (by rw [HK.out]; exact hjk)] at hj
          obtain ⟨A', c', j1, j2, j3, j4⟩ := HEU.out.2 j xs hj
          have := j4.kept hkw hgw
          rw [hz] at this
          exact ⟨A', c', by rw [List.getElem?_append_left (by rw [HUL.out]; exact hjk)]; exact j1, j2, j3, this⟩
        · obtain rfl : j = k := by
            have := (List.getElem?_eq_some_iff.1 hj).1
            rw [List.length_append, HK.out] at this
            simp at this
            omega
          rw [List.getElem?_append_right (by rw [HK.out]; exact Nat.le_refl _), HK.out, Nat.sub_self] at hj
          simp at hj
          subst hj
          have := HXR.out.1.kept hkw hgw
          rw [hz] at this
          exact ⟨At, cX, by rw [List.getElem?_append_right (by rw [HUL.out]; exact Nat.le_refl _), HUL.out, Nat.sub_self, HN.out]; rfl, HXR.out.2.1, HXR.out.2.2, this⟩
      · rw [List.length_append, HK.out]
        exact (ow_row HO9.out).2.1
      · exact (ow_row HO9.out).2.2
  have CB2 := rB_any _ p t X' (Bf ++ [X]) w11 HRF11.out.of_era (by rw [HN'.out]; omega) HSP.out.1 HSP.out.2
  unfold RetI refC at CB2
  rw [HB1.out, HNB1.out] at CB2
  replace CB2 := Lib.hid CB2
  clear hE'
  go_upto_region 12 with fail
  rw [← hw11]
  clear hw11 s0 s1 s2 s3 s4 s5 s6 s7 s8 s9 sl sf8 sf9 HK9 HO9 HB69 HK7 HO7 HB67 a0 a1 a2 a3 a4 a5 a6 a7 a8 a9 al HK6 HE6 HR6 HG6 HO6
  obtain ⟨⟨a0, a1⟩, ⟨a2, a3, a4, a5, a6, a7⟩, a8, a9, al⟩ := ref_cells HK11.out
  go_wp2_with fail
  refine CB2.out.mono ?_
  rintro e w12 ⟨An, cn, rfl, k1, k2, hrn, hb12⟩
  have HB12 := Lib.hid hb12
  have HBW12 := Lib.hid (HB11.out.trans (hb12.mono HB11.out.size))
  have HK12 := Lib.hid (HK11.out.after hb12)
  have HE12 := Lib.hid (HE11.out.after hb12)
  have HR12 := Lib.hid (HR11.out.after hb12)
  have HG12 := Lib.hid (HG11.out.after hb12)
  have HO12 := Lib.hid (HO11.out.below hb12).lt
  have HN12 := Lib.hid hrn
  clear hb12 hrn k1 k2 a0 a1 a2 a3 a4 a5 a6 a7 a8 a9 al CB2
  obtain ⟨q0, q1, q2⟩ := HE12.out.cells3
  have ql := HE12.out.lt
  go_upto_block 0 with fail
  obtain ⟨w13, hw13, HB13, HC13⟩ := boxV w12 52 #[.int .i64 (i : Int), .int .i64 ((i : Int) + (m : Int))]
  obtain ⟨gc, hgc⟩ : ∃ z, z = w12.heap.size := ⟨_, rfl⟩
  rw [← hw13, ← hgc]
  rw [← hgc] at HC13
  have HGC := Lib.hid hgc
  clear hw13 hgc q0 q1 q2 ql
  go_wp2
  go_loopw [13] (fun u wr => ∃ (z : Int) (j lo : Nat), u = .int .i64 z ∧ z = (j : Int) - 1 ∧ j ≤ i + 1 ∧ Hid (LoDn b0 b1 i j lo) ∧ Hid (Blk wr gc 52 #[.int .i64 (lo : Int), .int .i64 ((i : Int) + (m : Int))]) ∧ Hid (Below w12.heap.size w12 wr)) (fun u _ => (intOf u + 1).toNat)
  case atStart => exact ⟨i, i + 1, i, rfl, by omega, Nat.le_refl _, Lib.hid (LoDn.start _ _ _), HC13, HB13⟩
  case round =>
    obtain ⟨z, j, lo, rfl, hzj, hj, HL, HC, HB⟩ := hrel
    by_cases hj0 : 0 < j
    · obtain ⟨q, rfl⟩ : ∃ q, j = q + 1 := ⟨j - 1, by omega⟩
      obtain rfl : z = (q : Int) := by omega
      clear hzj
      obtain ⟨va, hva⟩ : ∃ v, decide ((q : Int) ∈ b0) = v := ⟨_, rfl⟩
      obtain ⟨vb, hvb⟩ : ∃ v, decide ((q : Int) ∈ b1) = v := ⟨_, rfl⟩
      have C1 := Lib.hid (in54_any Ao nb0 co b0 (q : Int) wr va (HO12.out.below HB.out).lt HNB0.out (by omega) hva)
      have C2 := Lib.hid (in54_any An nb1 cn b1 (q : Int) wr vb (HN12.out.below HB.out).lt HNB1.out (by omega) hvb)
      have HVA := Lib.hid hva
      have HVB := Lib.hid hvb
      clear hva hvb
      go_wp2_with fail
      refine C1.out.mono ?_
      rintro e wx1 ⟨rfl, rfl⟩
      go_wp2_with fail
      refine C2.out.mono ?_
      rintro e wx2 ⟨rfl, rfl⟩
      by_cases hne : va = vb
      · have dq : (va != vb) = false := by simp [hne]
        have dq2 : (va == vb) = true := by simp [hne]
        have HL' : Hid (LoDn b0 b1 i q lo) := Lib.hid (HL.out.no (fun h => h (by rw [← decide_eq_decide, HVA.out, HVB.out, hne])))
        clear hne
        go_wp2
        go_roundw
        case rel => exact ⟨(q : Int) - 1, q, lo, by go_num, rfl, by omega, HL', HC, HB⟩
        case measure => simp [intOf]
      · have dq : (va != vb) = true := by simp [hne]
        have dq2 : (va == vb) = false := by simp [hne]
        have HL' : Hid (LoDn b0 b1 i q q) := Lib.hid (HL.out.yes (fun h => hne (by
          rw [← HVA.out, ← HVB.out]
          exact decide_eq_decide.2 h)))
        have hcl := HC.out.lt
        obtain ⟨cc0, cc1, -⟩ := blk2 HC.out
        have cf0 := HC.out.free 0
        clear hne
        go_wp2
        go_roundw
        case rel => exact ⟨(q : Int) - 1, q, q, by go_num, rfl, by omega, HL', HC.out.set_ 0 _, HB.out.setCell (p := ⟨gc, 0, none⟩) (by show _ ≤ gc; rw [HGC.out]; exact Nat.le_refl _) _⟩
        case measure => simp [intOf]
    · obtain rfl : j = 0 := by omega
      obtain rfl : z = -1 := by omega
      have HLO := Lib.hid HL.out.done
      obtain ⟨q0, q1, q2⟩ := (HE12.out.after HB.out).cells3
      have ql := (HE12.out.after HB.out).lt
      obtain ⟨wl, hwl⟩ : ∃ z, z = wr := ⟨_, rfl⟩
      rw [← hwl] at HC HB q0 q1 q2 ql ⊢
      clear hwl hzj hj0
      go_wp2
      go_loopw [14] (fun u wr => ∃ (z : Int) (j hi : Nat) (zh : Int), u = .int .i64 z ∧ z = (j : Int) ∧ i + m ≤ j ∧ j ≤ n' + 1 ∧ Hid (zh = (hi : Int)) ∧ Hid (HiUp b0 b1 (i + m) n' ((m : Int) - (d : Int)) j hi) ∧ Hid (Blk wr gc 52 #[.int .i64 (lo : Int), .int .i64 zh]) ∧ Hid (Below w12.heap.size w12 wr)) (fun u _ => (n' + 1) - (intOf u).toNat)
      case atStart => exact ⟨(i : Int) + (m : Int), i + m, i + m, (i : Int) + (m : Int), rfl, by omega, by omega, by omega, Lib.hid (by omega), Lib.hid (HiUp.start hib), HC, HB⟩
      case round =>
        clear q0 q1 q2 ql
        obtain ⟨z, j, hi, zh, rfl, rfl, hj1, hj2, HZH, HH, HCr, HBr⟩ := hrel
        by_cases hjn : j ≤ n'
        · obtain ⟨s, hs⟩ : ∃ s : Int, (j : Int) - (m : Int) + (d : Int) = s := ⟨_, rfl⟩
          have HS : Hid ((j : Int) - ((m : Int) - (d : Int)) = s) := Lib.hid (by omega)
          have HW1 : Hid (IntKind.i64.wrap ((j : Int) - (m : Int)) = (j : Int) - (m : Int)) := Lib.hid (Go.IntWalk.i64_in _ (by omega))
          have HW2 : Hid (IntKind.i64.wrap ((j : Int) - (m : Int) + (d : Int)) = (j : Int) - (m : Int) + (d : Int)) := Lib.hid (Go.IntWalk.i64_in _ (by omega))
          obtain ⟨va, hva⟩ : ∃ v, decide (s ∈ b0) = v := ⟨_, rfl⟩
          obtain ⟨vb, hvb⟩ : ∃ v, decide ((j : Int) ∈ b1) = v := ⟨_, rfl⟩
          have C1 := Lib.hid (fun (u : World) (hu : Below wr.heap.size wr u) => in54_any Ao nb0 co b0 s u va ((HO12.out.below HBr.out).lt.below hu).lt HNB0.out (by omega) hva)
          rw [← hs] at C1
          have C2 := Lib.hid (fun (u : World) (hu : Below wr.heap.size wr u) => in54_any An nb1 cn b1 (j : Int) u vb ((HN12.out.below HBr.out).lt.below hu).lt HNB1.out (by omega) hvb)
          have HVA := Lib.hid hva
          have HVB := Lib.hid hvb
          obtain ⟨q0, q1, q2⟩ := (HE12.out.after HBr.out).cells3
          have ql := (HE12.out.after HBr.out).lt
          have HEr := Lib.hid (HE12.out.after HBr.out)
          clear hva hvb hs
          by_cases hne : va = vb
          · have dq : (va != vb) = false := by simp [hne]
            have dq2 : (va == vb) = true := by simp [hne]
            have dq3 : (vb == va) = true := by simp [hne]
            have HH' : Hid (HiUp b0 b1 (i + m) n' ((m : Int) - (d : Int)) (j + 1) hi) := Lib.hid (HH.out.no (fun h => h (by rw [HS.out, ← decide_eq_decide, HVA.out, HVB.out, hne])))
            clear hne
            go_upto_region 22 with fail
            refine wp_region_tree (fun w' => Blk w' g1 46 #[.int .i64 (i : Int), .int .i64 (d : Int), .slice A m c]) (.float 0 (.float 1 (.float 3 (.float 4 (.float 5 (.float 6 (.float 7 (.float 8 (.float 9 (.float 10 (.float 11 (.one 2 (.one 12 (.float 13 .done)))))))))))))) (by kernel_rfl) (by kernel_rfl) (fun _ _ d _ _ h => by cases d <;> exact h) HEr.out.drew ?_
            repeat (first
              | (refine wpTr_fskip (by simp only [List.getElem?_toArray, List.getElem?_cons_zero, List.getElem?_cons_succ]; rfl) (by rfl) ?_
                 simp only [Act.put, List.setIfInBounds_toArray, List.set_cons_zero, List.set_cons_succ])
              | (refine wpTr_float (v := ?_) (by simp only [List.getElem?_toArray, List.getElem?_cons_zero, List.getElem?_cons_succ]; rfl) (by rfl) (fun w' hS => ?_) ?_
                 rotate_left
                 ((obtain ⟨e0', e1', e2'⟩ := hS.cells3; have el' := hS.lt); go_simp; first | done | rfl)
                 simp only [Act.put, List.setIfInBounds_toArray, List.set_cons_zero, List.set_cons_succ]))
            refine wpTr_one ?_
            refine stepTr_K (by simp only [List.getElem?_toArray, List.getElem?_cons_zero, List.getElem?_cons_succ]; rfl) (by rfl) (fun K hK => ?_)
            go_simp
            refine (C2.out wr.drew (Below.refl _ _).drew).mono ?_
            rintro e wx1 ⟨rfl, rfl⟩
            refine hK.out _ _ HEr.out.drew ?_
            clear hK K
            try simp only [Act.put, List.setIfInBounds_toArray, List.set_cons_zero, List.set_cons_succ]
            refine wpTr_one ?_
            refine stepTr_K (by simp only [List.getElem?_toArray, List.getElem?_cons_zero, List.getElem?_cons_succ]; rfl) (by rfl) (fun K hK => ?_)
            go_simp
            rw [HW1.out, HW2.out]
            refine (C1.out wr.drew (Below.refl _ _).drew).mono ?_
            rintro e wx2 ⟨rfl, rfl⟩
            refine hK.out _ _ HEr.out.drew ?_
            clear hK K
            try simp only [Act.put, List.setIfInBounds_toArray, List.set_cons_zero, List.set_cons_succ]
            repeat (first
              | (refine wpTr_fskip (by simp only [List.getElem?_toArray, List.getElem?_cons_zero, List.getElem?_cons_succ]; rfl) (by rfl) ?_
                 simp only [Act.put, List.setIfInBounds_toArray, List.set_cons_zero, List.set_cons_succ])
              | (refine wpTr_float (v := ?_) (by simp only [List.getElem?_toArray, List.getElem?_cons_zero, List.getElem?_cons_succ]; rfl) (by rfl) (fun w' hS => ?_) ?_
                 rotate_left
                 ((skip); go_simp; first | done | rfl)
                 simp only [Act.put, List.setIfInBounds_toArray, List.set_cons_zero, List.set_cons_succ]))
            refine wpTr_done ?_
            go_wp2
            go_roundw
            case rel => exact ⟨(j : Int) + 1, j + 1, hi, zh, by go_num, by omega, by omega, by omega, HZH, HH', HCr.out.drew, HBr.out.drew⟩
            case measure => simp [intOf]; omega
          · have dq : (va != vb) = true := by simp [hne]
            have dq2 : (va == vb) = false := by simp [hne]
            have dq3 : (vb == va) = false := by simpa using fun h => hne (Eq.symm h)
            have HH' : Hid (HiUp b0 b1 (i + m) n' ((m : Int) - (d : Int)) (j + 1) j) := Lib.hid (HH.out.yes hj1 hjn (fun h => hne (by
              rw [← HVA.out, ← HVB.out]
              rw [HS.out] at h
              exact decide_eq_decide.2 h)))
            have hcl := HCr.out.lt
            obtain ⟨cc0, cc1, -⟩ := blk2 HCr.out
            have cf1 := HCr.out.free 1
            clear hne
            go_upto_region 22 with fail
            refine wp_region_tree (fun w' => Blk w' g1 46 #[.int .i64 (i : Int), .int .i64 (d : Int), .slice A m c]) (.float 0 (.float 1 (.float 3 (.float 4 (.float 5 (.float 6 (.float 7 (.float 8 (.float 9 (.float 10 (.float 11 (.one 2 (.one 12 (.float 13 .done)))))))))))))) (by kernel_rfl) (by kernel_rfl) (fun _ _ d _ _ h => by cases d <;> exact h) HEr.out.drew ?_
            repeat (first
              | (refine wpTr_fskip (by simp only [List.getElem?_toArray, List.getElem?_cons_zero, List.getElem?_cons_succ]; rfl) (by rfl) ?_
                 simp only [Act.put, List.setIfInBounds_toArray, List.set_cons_zero, List.set_cons_succ])
              | (refine wpTr_float (v := ?_) (by simp only [List.getElem?_toArray, List.getElem?_cons_zero, List.getElem?_cons_succ]; rfl) (by rfl) (fun w' hS => ?_) ?_
                 rotate_left
                 ((obtain ⟨e0', e1', e2'⟩ := hS.cells3; have el' := hS.lt); go_simp; first | done | rfl)
                 simp only [Act.put, List.setIfInBounds_toArray, List.set_cons_zero, List.set_cons_succ]))
            refine wpTr_one ?_
            refine stepTr_K (by simp only [List.getElem?_toArray, List.getElem?_cons_zero, List.getElem?_cons_succ]; rfl) (by rfl) (fun K hK => ?_)
            go_simp
            refine (C2.out wr.drew (Below.refl _ _).drew).mono ?_
            rintro e wx1 ⟨rfl, rfl⟩
            refine hK.out _ _ HEr.out.drew ?_
            clear hK K
            try simp only [Act.put, List.setIfInBounds_toArray, List.set_cons_zero, List.set_cons_succ]
            refine wpTr_one ?_
            refine stepTr_K (by simp only [List.getElem?_toArray, List.getElem?_cons_zero, List.getElem?_cons_succ]; rfl) (by rfl) (fun K hK => ?_)
            go_simp
            rw [HW1.out, HW2.out]
            refine (C1.out wr.drew (Below.refl _ _).drew).mono ?_
            rintro e wx2 ⟨rfl, rfl⟩
            refine hK.out _ _ HEr.out.drew ?_
            clear hK K
            try simp only [Act.put, List.setIfInBounds_toArray, List.set_cons_zero, List.set_cons_succ]
            repeat (first
              | (refine wpTr_fskip (by simp only [List.getElem?_toArray, List.getElem?_cons_zero, List.getElem?_cons_succ]; rfl) (by rfl) ?_
                 simp only [Act.put, List.setIfInBounds_toArray, List.set_cons_zero, List.set_cons_succ])
              | (refine wpTr_float (v := ?_) (by simp only [List.getElem?_toArray, List.getElem?_cons_zero, List.getElem?_cons_succ]; rfl) (by rfl) (fun w' hS => ?_) ?_
                 rotate_left
                 ((skip); go_simp; first | done | rfl)
                 simp only [Act.put, List.setIfInBounds_toArray, List.set_cons_zero, List.set_cons_succ]))
            refine wpTr_done ?_
            go_wp2
            go_roundw
            case rel => exact ⟨(j : Int) + 1, j + 1, j, (j : Int), by go_num, by omega, by omega, by omega, Lib.hid rfl, HH', (HCr.out.drew).set_ 1 _, (HBr.out.drew).setCell (p := ⟨gc, 1, none⟩) (by show _ ≤ gc; rw [HGC.out]; exact Nat.le_refl _) _⟩
            case measure => simp [intOf]; omega
        · obtain rfl : j = n' + 1 := by omega
          have HHI := Lib.hid HH.out.done
          have HKr := Lib.hid (HK12.out.after HBr.out)
          have HRr := Lib.hid (HR12.out.after HBr.out)
          have HGr := Lib.hid (HG12.out.after HBr.out)
          obtain ⟨⟨a0, a1⟩, ⟨a2, a3, a4, a5, a6, a7⟩, a8, a9, al⟩ := ref_cells HKr.out
          go_upto_region 24 with fail
          clear a0 a1 a2 a3 a4 a5 a6 a7 a8 a9 al
          refine wp_region_tree (fun w' => Blk w' w.heap.size 42 (refC x p y t A3 n' c3 A9 (k + 1) c9) ∧ Blk w' gc 52 #[.int .i64 (lo : Int), .int .i64 zh]) (.float 0 (.float 1 (.one 2 (.one 3 (.float 4 .done))))) (by kernel_rfl) (by kernel_rfl) (fun _ _ d _ _ h => by cases d <;> exact h) ⟨HKr.out.drew, HCr.out.drew⟩ ?_
          repeat (first
            | (refine wpTr_fskip (by simp only [List.getElem?_toArray, List.getElem?_cons_zero, List.getElem?_cons_succ]; rfl) (by rfl) ?_
               simp only [Act.put, List.setIfInBounds_toArray, List.set_cons_zero, List.set_cons_succ])
            | (refine wpTr_float (v := ?_) (by simp only [List.getElem?_toArray, List.getElem?_cons_zero, List.getElem?_cons_succ]; rfl) (by rfl) (fun w' hS => ?_) ?_
               rotate_left
               ((obtain ⟨hSK, hSC⟩ := hS; obtain ⟨⟨b0', b1'⟩, ⟨b2', b3', b4', b5', b6', b7'⟩, b8', b9', bl'⟩ := ref_cells hSK; obtain ⟨h0', h1', hl'⟩ := blk2 hSC); go_simp; first | done | rfl)
               simp only [Act.put, List.setIfInBounds_toArray, List.set_cons_zero, List.set_cons_succ]))
          obtain ⟨wd, hwd⟩ : ∃ z, z = wr.drew := ⟨_, rfl⟩
          have hbd : Below wr.heap.size wr wd := by
            rw [hwd]
            exact (Below.refl _ _).drew
          rw [← hwd]
          clear hwd
          have HBd := Lib.hid (HBr.out.trans (hbd.mono HBr.out.size))
          have HKd := Lib.hid (HKr.out.after hbd)
          have HRd := Lib.hid (HRr.out.after hbd)
          have HGd := Lib.hid (HGr.out.after hbd)
          have HCd := Lib.hid (HCr.out.after hbd)
          clear hbd
          obtain ⟨⟨c0, c1, c2, c3', c4, c5, c6, c7, c8, c9'⟩, ⟨f0, f1, f2, f3, f4, f5, f6, f7, f8, f9⟩, cl⟩ := cells10 HRd.out
          have hg2c : g2 ≠ gc := by
            have h1 := HG2.out
            have h2 := HGC.out
            have h3 := HBW12.out.size
            have h4 := HR12.out.lt
            omega
          have hg3c : g3 ≠ gc := by
            have h2 := HGC.out
            have h4 := HG12.out.lt
            omega
          have hg2w : g2 ≠ w.heap.size := by rw [HG2.out]; omega
          have hg3w : g3 ≠ w.heap.size := by rw [HG3.out]; omega
          have hg23 : g3 ≠ g2 := by rw [HG2.out, HG3.out]; omega
          obtain ⟨w14, hw14, HQ14, HR14, HG14, HK14, HC14⟩ : ∃ z, z = put10 wd g2 (.slice x.n p.names.length x.cn) (.slice x.s p.spans.length x.cs) (.slice y.c t.cls.length y.cc) (.slice y.a t.act.length y.ca) (.slice y.ln t.ln.length y.cln) (.slice y.lm t.lm.length y.clm) (.slice y.rn t.rn.length y.crn) (.slice y.rm t.rm.length y.crm) (.slice A3 n' c3) (.slice A9 (k + 1) c9) ∧ Hid (∀ b, b ≠ g2 → z.heap[b]? = wd.heap[b]?) ∧ Hid (Blk z g2 42 #[.slice x.n p.names.length x.cn, .slice x.s p.spans.length x.cs, .slice y.c t.cls.length y.cc, .slice y.a t.act.length y.ca, .slice y.ln t.ln.length y.cln, .slice y.lm t.lm.length y.clm, .slice y.rn t.rn.length y.crn, .slice y.rm t.rm.length y.crm, .slice A3 n' c3, .slice A9 (k + 1) c9]) ∧ Hid (Blk z g3 52 #[.int .i64 0, .int .i64 0]) ∧ Hid (Blk z w.heap.size 42 (refC x p y t A3 n' c3 A9 (k + 1) c9)) ∧ Hid (Blk z gc 52 #[.int .i64 (lo : Int), .int .i64 zh]) :=
            ⟨_, rfl, Lib.hid put10_keep, Lib.hid (put10_blk HRd.out), Lib.hid ((put10_keep g3 hg23).trans HGd.out), Lib.hid ((put10_keep _ (Ne.symm hg2w)).trans HKd.out), Lib.hid ((put10_keep _ (Ne.symm hg2c)).trans HCd.out)⟩
          have HZ14 : Hid (w14.heap.size = wd.heap.size) := Lib.hid (by rw [hw14]; exact put10_size)
          have HBe14 : Hid (Below w.heap.size w w14) := Lib.hid (by
            rw [hw14]
            exact put10_below (HBW12.out.trans (HBd.out.mono HBW12.out.size)) (by rw [HG2.out]; omega))
          unfold put10 at hw14
          replace hw14 := hw14.symm
          refine wpTr_one ?_
          refine stepTr_K (by simp only [List.getElem?_toArray, List.getElem?_cons_zero, List.getElem?_cons_succ]; rfl) (by rfl) (fun K hK => ?_)
          go_simp
          refine hK.out _ _ ⟨HK14.out, HC14.out⟩ ?_
          clear hK K hw14 c0 c1 c2 c3' c4 c5 c6 c7 c8 c9' f0 f1 f2 f3 f4 f5 f6 f7 f8 f9 cl
          try simp only [Act.put, List.setIfInBounds_toArray, List.set_cons_zero, List.set_cons_succ]
          obtain ⟨s0, s1, sl⟩ := blk2 HG14.out
          have t0 := HG14.out.free 0
          have t1 := HG14.out.free 1
          obtain ⟨wf, hwf, HBf, HRf, HGf, HKf, HCf, HRA⟩ : ∃ z, z = (w14.setCell ⟨g3, 0, none⟩ (.int .i64 (lo : Int))).setCell ⟨g3, 1, none⟩ (.int .i64 zh) ∧ Hid (Below w.heap.size w z) ∧ Hid (Blk z g2 42 #[.slice x.n p.names.length x.cn, .slice x.s p.spans.length x.cs, .slice y.c t.cls.length y.cc, .slice y.a t.act.length y.ca, .slice y.ln t.ln.length y.cln, .slice y.lm t.lm.length y.clm, .slice y.rn t.rn.length y.crn, .slice y.rm t.rm.length y.crm, .slice A3 n' c3, .slice A9 (k + 1) c9]) ∧ Hid (Blk z g3 52 #[.int .i64 (lo : Int), .int .i64 zh]) ∧ Hid (Blk z w.heap.size 42 (refC x p y t A3 n' c3 A9 (k + 1) c9)) ∧ Hid (Blk z gc 52 #[.int .i64 (lo : Int), .int .i64 zh]) ∧
              Hid (RefAt (era z E) z.heap.size (.agg (refC x p y t A3 n' c3 A9 (k + 1) c9)) p t X' (Bf ++ [X])) := by
            have hq : ∀ b, b ≠ g3 → ((w14.setCell ⟨g3, 0, none⟩ (.int .i64 (lo : Int))).setCell ⟨g3, 1, none⟩ (.int .i64 zh)).heap[b]? = w14.heap[b]? := fun b hb => (Below.heap_setCell _ _ _ b hb).trans (Below.heap_setCell _ _ _ b hb)
            have hz : ((w14.setCell ⟨g3, 0, none⟩ (.int .i64 (lo : Int))).setCell ⟨g3, 1, none⟩ (.int .i64 zh)).heap.size = w14.heap.size := by simp [World.setCell]
            have hwg : w.heap.size ≤ g3 := by rw [HG3.out]; omega
            have h1 := HG2.out
            have h2 := HG3.out
            have h3 := HG4.out.lt
            refine ⟨_, rfl, Lib.hid ((HBe14.out.setCell (p := ⟨g3, 0, none⟩) hwg _).setCell (p := ⟨g3, 1, none⟩) hwg _), Lib.hid ((hq g2 (Ne.symm hg23)).trans HR14.out), Lib.hid ((HG14.out.set_ 0 _).set_ 1 _), Lib.hid ((hq _ (Ne.symm hg3w)).trans HK14.out), Lib.hid ((hq gc (Ne.symm hg3c)).trans HC14.out), Lib.hid ?_⟩
            have hk : ∀ b, b < w11.heap.size → ¬ E' b → ((w14.setCell ⟨g3, 0, none⟩ (.int .i64 (lo : Int))).setCell ⟨g3, 1, none⟩ (.int .i64 zh)).heap[b]? = w11.heap[b]? := fun b hb hnE => by
              have e2 : b ≠ g2 := fun e => hnE (e ▸ HE'g.out g2 (by omega) (by omega))
              have e3 : b ≠ g3 := fun e => hnE (e ▸ HE'g.out g3 (by omega) (by omega))
              have hsz := HB12.out.size
              rw [hq b e3, HQ14.out b e2, HBd.out.block b (by omega), HB12.out.block b hb]
            exact (HRF11.out.era_keep (E' := E) hk (fun b _ hb => HE'E.out b hb)).more (by
              rw [hz, HZ14.out]
              have h4 := HB12.out.size
              have h5 := HBd.out.size
              omega)
          refine wpTr_one ?_
          refine stepTr_K (by simp only [List.getElem?_toArray, List.getElem?_cons_zero, List.getElem?_cons_succ]; rfl) (by rfl) (fun K hK => ?_)
          go_simp
          rw [← hwf]
          refine hK.out _ _ ⟨HKf.out, HCf.out⟩ ?_
          clear hK K hwf s0 s1 sl t0 t1
          try simp only [Act.put, List.setIfInBounds_toArray, List.set_cons_zero, List.set_cons_succ]
          repeat (first
            | (refine wpTr_fskip (by simp only [List.getElem?_toArray, List.getElem?_cons_zero, List.getElem?_cons_succ]; rfl) (by rfl) ?_
               simp only [Act.put, List.setIfInBounds_toArray, List.set_cons_zero, List.set_cons_succ])
            | (refine wpTr_float (v := ?_) (by simp only [List.getElem?_toArray, List.getElem?_cons_zero, List.getElem?_cons_succ]; rfl) (by rfl) (fun w' hS => ?_) ?_
               rotate_left
               ((skip); go_simp; first | done | rfl)
               simp only [Act.put, List.setIfInBounds_toArray, List.set_cons_zero, List.set_cons_succ]))
          refine wpTr_done ?_
          obtain ⟨⟨j0, j1, j2, j3, j4, j5, j6, j7, j8, j9⟩, -, jl⟩ := cells10 HRf.out
          obtain ⟨r0, r1, rl⟩ := blk2 HGf.out
          go_wp2
          refine bodyPost_ret (v := .tuple #[.agg #[.slice x.n p.names.length x.cn, .slice x.s p.spans.length x.cs, .slice y.c t.cls.length y.cc, .slice y.a t.act.length y.ca, .slice y.ln t.ln.length y.cln, .slice y.lm t.lm.length y.clm, .slice y.rn t.rn.length y.crn, .slice y.rm t.rm.length y.crm, .slice A3 n' c3, .slice A9 (k + 1) c9], .agg #[.int .i64 (lo : Int), .int .i64 zh], .int .i64 0]) ?_ rfl ⟨_, lo, hi, by rw [HZH.out]; rfl, HLO.out, HHI.out, HRA.out, HBf.out⟩
          simp [results, Try.results15, go_sem, j0, j1, j2, j3, j4, j5, j6, j7, j8, j9, r0, r1]
end Go.Proofs.Ytkpblieanejmeaa
