/-
  (*incbreak.Document).Undo.
  (*incbreak.Document).Edit: where it refuses.
  (*incbreak.Document).Edit: where the edit fits.
-/
import Derived.Test.YtkpblieanejmeaaIc4
import Derived.Test.YtkpblieanejmeaaIc2
import Derived.Test.YtkpblieanejmeaaEdm
import Derived.Test.YtkpblieanejmeaaIc3
namespace Go.UtYtkpblieanejmeaa
open Go.RowKit Go.Proofs.Ytkpblieanejmeaa
section
variable {w : World} {B D : Nat} {uv : Value} {p : PR} {t : BT} {X : List Int} {U : List EdN}
theorem DocAt.text (h : DocAt w B D uv p t X U) : ∃ At cX, w.cell? ⟨D, 9, none⟩ = some (.slice At X.length cX) ∧ Row (era w (Foot D uv)) w.heap.size At (ints X) ∧ X.length ≤ cX ∧ cX ≤ maxLen := by
  obtain ⟨x, y, At, cX, Ac, cC, vs, hD, h2, h3, h5, h6, h7, h8⟩ := h
  exact ⟨At, cX, hD.cell 9, h7⟩
theorem DocAt.cuts (h : DocAt w B D uv p t X U) : ∃ Ac cC, w.cell? ⟨D, 10, none⟩ = some (.slice Ac (bndL p t X).length cC) ∧ Row (era w (Foot D uv)) w.heap.size Ac (ints (bndL p t X)) ∧ (bndL p t X).length ≤ cC ∧ cC ≤ maxLen := by
  obtain ⟨x, y, At, cX, Ac, cC, vs, hD, h2, h3, h5, h6, h7, h8⟩ := h
  exact ⟨Ac, cC, hD.cell 10, h8⟩
theorem DocAt.open_ (h : DocAt w B D uv p t X U) : w.cell? ⟨D, 11, none⟩ = some (.bool true) := by
  obtain ⟨x, y, At, cX, Ac, cC, vs, hD, h2, h3, h5, h6, h7, h8⟩ := h
  exact hD.cell 11
theorem DocAt.footLt (h : DocAt w B D uv p t X U) : ∀ b, Foot D uv b → b < w.heap.size := by
  obtain ⟨x, y, At, cX, Ac, cC, vs, hD, h2, h3, h5, h6, h7, h8⟩ := h
  rintro b (rfl | hb)
  · exact hD.lt
  · exact (h3.1.lt b hb).2
theorem DocAt.baseLe (h : DocAt w B D uv p t X U) : B ≤ w.heap.size := by
  have h1 := h.lt
  obtain ⟨x, y, At, cX, Ac, cC, vs, hD, h2, h3, h5, h6, h7, h8⟩ := h
  have := h2.1
  omega
end
end Go.UtYtkpblieanejmeaa
namespace Go.Proofs.Ytkpblieanejmeaa
open Go.RowKit Go.UtYtkpblieanejmeaa
set_option maxRecDepth 100000 in
set_option maxHeartbeats 2000000 in
theorem undo_no (D T : Nat) (A0 : Option Addr) (c0 : Nat) (cs : Array Value) (w : World) (hD : Blk w D T cs) (h0 : cs[0]? = some (.slice A0 0 c0)) :
    Calls Try.prog 14 #[.pointer (some ⟨D, 0, none⟩)] w fun e w' => e = .returned (.bool false) ∧ Below w.heap.size w w' := by
  have CP := Lib.hid (pop_no D T A0 c0 cs w hD h0)
  have hl := hD.lt
  clear hD h0
  go_enter Try.func14, Try.ntmps14
  go_wp2_with fail
  refine CP.out.mono ?_
  rintro e w1 ⟨rfl, hb1⟩
  obtain ⟨w2, hw2, HB2⟩ : ∃ z, z = w1.alloc (.cells #[.int .i64 0, .int .i64 0, .slice none 0 0] 46) ∧ Hid (Below w.heap.size w z) := ⟨_, rfl, Lib.hid (hb1.trans (((Below.refl _ _).alloc (Nat.le_refl _) _).mono hb1.size))⟩
  clear hb1
  go_wp2
  go_ret
  exact ⟨rfl, hw2 ▸ HB2.out⟩
/-- the call undoes the last edit -/
def RetUnE (E : Nat → Prop) (w : World) (B D : Nat) (uv : Value) (p : PR) (t : BT) (X : List Int) (U : List EdN) (e : Ending) (w' : World) : Prop :=
  e = .returned (.bool true) ∧ ∃ uv', DocAtE E w' B D uv' p t X U ∧ Kept B (Foot D uv) w w' ∧ Grew w (Foot D uv) (Foot D uv')
set_option maxRecDepth 100000 in
set_option maxHeartbeats 2000000 in
theorem undo_anyE (E : Nat → Prop) (B D : Nat) (uv : Value) (p : PR) (t : BT) (X : List Int) (U : List EdN) (i d : Nat) (ins : List Int) (w : World) (h : DocAtE E w B D uv p t X (U ++ [(i, d, ins)])) (hE : ∀ b, E b → b < w.heap.size) (hU : U.length ≤ 1000) (hid : i + d ≤ X.length) (hl : X.length + ins.length ≤ 10000)
    (hsp : p.spans.length ≤ 100000) (hsm : t.cls.length ≤ 1000 ∧ t.act.length ≤ 1000) :
    Calls Try.prog 14 #[.pointer (some ⟨D, 0, none⟩)] w (RetUnE E w B D uv p t (apN i d ins X) U) := by
  obtain ⟨m, hm⟩ : ∃ m, ins.length = m := ⟨_, rfl⟩
  have CP := Lib.hid (pop_any E B D uv p t X U i d m ins w h hm hU)
  unfold RetPop at CP
  have hDl := h.doc.lt
  have HEE := Lib.hid hE
  have HM := Lib.hid hm
  obtain ⟨X', hX'⟩ : ∃ X', apN i d ins X = X' := ⟨_, rfl⟩
  have HX' := Lib.hid hX'
  have HID := Lib.hid hid
  have HL := Lib.hid hl
  have HSP := Lib.hid (And.intro hsp hsm)
  obtain ⟨n, hn⟩ : ∃ n, X.length = n := ⟨_, rfl⟩
  obtain ⟨n', hn'⟩ : ∃ n, X'.length = n := ⟨_, rfl⟩
  have HN := Lib.hid hn
  have HN' := Lib.hid hn'
  have hnn : n' ≤ 10000 := by
    rw [← hn', ← hX', apN_len hid]
    omega
  rw [hX']
  clear h hX' hid hl hsp hsm hm hn hn' hE
  go_enter Try.func14, Try.ntmps14
  go_wp2_with fail
  refine CP.out.mono ?_
  rintro e w1 ⟨A, c, uv1, rfl, ⟨hr1, hc1, hm1⟩, hd1, hk1, hg1⟩
  have hl1 := hd1.doc.lt
  obtain ⟨w2, hw2, HB2, HE2⟩ := boxV w1 46 #[.int .i64 (i : Int), .int .i64 (d : Int), .slice A m c]
  have HK1 := Lib.hid hk1
  have HG1 := Lib.hid hg1
  have HD2 := Lib.hid (hd1.after HB2.out)
  have hk2 : Kept B (Foot D uv1) w1 w2 := Kept.below hd1.doc.baseLe HB2.out
  have HK2 : Hid (Kept B (Foot D uv) w w2) := Lib.hid (hk1.trans hg1 hk2)
  have HR2 := Lib.hid (hr1.kept hk2.ext (Grew.refl _ _))
  clear hr1 hd1 hk1 hg1 hk2 CP
  go_upto_region 6 with fail
  rw [← hw2]
  clear hw2
  obtain ⟨At, cX, e9, hrt, ht1, ht2⟩ := HD2.out.doc.text
  rw [HN.out] at e9 ht1
  have hl2 := HD2.out.doc.lt
  have HRT := Lib.hid hrt
  have hap : appZ i d ins X = (X', 0) := by
    have h := HID.out
    unfold appZ
    rw [if_neg (by rw [checkB_ok h (by have := HL.out; omega)]; decide)]
    rw [← HX'.out]
    rfl
  have CA0 := fun (u : World) (hu : Below w2.heap.size w2 u) => apply_all i d A At c cX u.heap.size ins X u ((HR2.out.of_era.below hu).more hu.size) ((HRT.out.of_era.below hu).more hu.size) (Nat.le_refl _) (by rw [HN.out]; exact ht1) (by have := HL.out; omega) X' 0 hap
  unfold RetInts2 at CA0
  rw [HM.out, HN.out, HN'.out] at CA0
  have CA := Lib.hid CA0
  clear CA0 hrt hap
  refine wp_region_tree (fun w' => w'.cell? ⟨D, 9, none⟩ = some (.slice At n cX) ∧ D < w'.heap.size ∧ Blk w' w1.heap.size 46 #[.int .i64 (i : Int), .int .i64 (d : Int), .slice A m c]) (.float 0 (.float 1 (.float 2 (.float 3 (.float 4 (.one 5 (.float 6 (.float 7 (.float 8 (.float 9 (.float 10 .done))))))))))) (by kernel_rfl) (by kernel_rfl) (fun _ _ d _ _ h => by cases d <;> exact h) ⟨e9, hl2, HE2.out.drew⟩ ?_
  repeat (first
    | (refine wpTr_fskip (by simp only [List.getElem?_toArray, List.getElem?_cons_zero, List.getElem?_cons_succ]; rfl) (by rfl) ?_
       simp only [Act.put, List.setIfInBounds_toArray, List.set_cons_zero, List.set_cons_succ])
    | (refine wpTr_float (v := ?_) (by simp only [List.getElem?_toArray, List.getElem?_cons_zero, List.getElem?_cons_succ]; rfl) (by rfl) (fun w' hS => ?_) ?_
       rotate_left
       ((obtain ⟨hS9, hSl, hSE⟩ := hS; obtain ⟨s0', s1', s2'⟩ := hSE.cells3; have sl' := hSE.lt); go_simp; first | done | rfl)
       simp only [Act.put, List.setIfInBounds_toArray, List.set_cons_zero, List.set_cons_succ]))
  refine wpTr_one ?_
  refine stepTr_K (by simp only [List.getElem?_toArray, List.getElem?_cons_zero, List.getElem?_cons_succ]; rfl) (by rfl) (fun K hK => ?_)
  go_simp
  refine (CA.out w2.drew (Below.refl _ _).drew).mono ?_
  rintro e w3 ⟨A3, c3, rfl, g1, g2, hr3, hn3, hb3⟩
  have hb3' : Below w2.heap.size w2 w3 := (Below.refl _ _).drew.trans hb3
  have HB3 := Lib.hid hb3'
  have HE3 := Lib.hid (HE2.out.after hb3')
  have HD3 := Lib.hid (HD2.out.after hb3')
  have HR3 : Hid (Row (era w3 (FootE E D uv1)) w3.heap.size A3 (ints X')) := Lib.hid (hr3.era_new hn3 (fun b hb => by
    rcases hb with hb | hb
    · exact HD2.out.doc.footLt b hb
    · exact Nat.lt_of_lt_of_le (HEE.out b hb) HK2.out.1.size))
  have e93 := (hb3'.cell (p := ⟨D, 9, none⟩) hl2).trans e9
  have hl3 : D < w3.heap.size := by have := hb3'.size; omega
  refine hK.out _ _ ⟨e93, hl3, HE3.out⟩ ?_
  clear hK K hr3 hn3 hb3 hb3' CA
  try simp only [Act.put, List.setIfInBounds_toArray, List.set_cons_zero, List.set_cons_succ]
  repeat (first
    | (refine wpTr_fskip (by simp only [List.getElem?_toArray, List.getElem?_cons_zero, List.getElem?_cons_succ]; rfl) (by rfl) ?_
       simp only [Act.put, List.setIfInBounds_toArray, List.set_cons_zero, List.set_cons_succ])
    | (refine wpTr_float (v := ?_) (by simp only [List.getElem?_toArray, List.getElem?_cons_zero, List.getElem?_cons_succ]; rfl) (by rfl) (fun w' hS => ?_) ?_
       rotate_left
       ((skip); go_simp; first | done | rfl)
       simp only [Act.put, List.setIfInBounds_toArray, List.set_cons_zero, List.set_cons_succ]))
  refine wpTr_done ?_
  go_wp2_with (first
    | (go_at_call 40
       refine (set_anyE E B D uv1 p t X' U A3 n' c3 w3 HD3.out.raw (fun b hb => Nat.lt_of_lt_of_le (HEE.out b hb) (Nat.le_trans HK2.out.1.size HB3.out.size)) HR3.out HN'.out g1 g2 HSP.out.1 HSP.out.2 hnn).mono ?_
       rintro e w4 ⟨⟨v4, rfl⟩, hd4, hk4⟩
       have HD4 := Lib.hid hd4
       have HK4 : Hid (Kept B (Foot D uv) w w4) := Lib.hid ((HK2.out.trans HG1.out (Kept.below (by have := HD2.out.doc.baseLe; exact this) HB3.out)).trans HG1.out hk4)
       clear hd4 hk4))
  go_ret
  exact ⟨rfl, uv1, HD4.out, HK4.out, HG1.out⟩
/-- the same, with nothing else held apart -/
def RetUn (w : World) (B D : Nat) (uv : Value) (p : PR) (t : BT) (X : List Int) (U : List EdN) (e : Ending) (w' : World) : Prop :=
  e = .returned (.bool true) ∧ ∃ uv', DocAt w' B D uv' p t X U ∧ Kept B (Foot D uv) w w' ∧ Grew w (Foot D uv) (Foot D uv')
theorem undo_any (B D : Nat) (uv : Value) (p : PR) (t : BT) (X : List Int) (U : List EdN) (i d : Nat) (ins : List Int) (w : World) (h : DocAt w B D uv p t X (U ++ [(i, d, ins)])) (hU : U.length ≤ 1000) (hid : i + d ≤ X.length) (hl : X.length + ins.length ≤ 10000)
    (hsp : p.spans.length ≤ 100000) (hsm : t.cls.length ≤ 1000 ∧ t.act.length ≤ 1000) :
    Calls Try.prog 14 #[.pointer (some ⟨D, 0, none⟩)] w (RetUn w B D uv p t (apN i d ins X) U) := by
  refine (undo_anyE (fun _ => False) B D uv p t X U i d ins w (docAtE_false.2 h) (fun b hb => hb.elim) hU hid hl hsp hsm).mono ?_
  rintro e w' ⟨h1, uv', h2, h3⟩
  exact ⟨h1, uv', docAtE_false.1 h2, h3⟩
end Go.Proofs.Ytkpblieanejmeaa
namespace Go.Proofs.Ytkpblieanejmeaa
open Go.RowKit Go.UtYtkpblieanejmeaa
/-- the call returns no range, and a code; nothing older has changed -/
def RetEd0 (w : World) (code : Int) (e : Ending) (w' : World) : Prop :=
  e = .returned (.tuple #[.agg #[.int .i64 0, .int .i64 0], .int .i64 code]) ∧ Below w.heap.size w w'
theorem rng_set {w0 w1 : World} {T g : Nat} (hK : Blk w1 g T #[.int .i64 0, .int .i64 0]) (hB : Below w0.heap.size w0 w1) (hg : w0.heap.size ≤ g) : ∃ z, z = (w1.setCell ⟨g, 0, none⟩ (.int .i64 0)).setCell ⟨g, 1, none⟩ (.int .i64 0) ∧ Hid (Below w0.heap.size w0 z) ∧ Hid (Blk z g T #[.int .i64 0, .int .i64 0]) :=
  ⟨_, rfl, Lib.hid ((hB.setCell (p := ⟨g, 0, none⟩) hg _).setCell (p := ⟨g, 1, none⟩) hg _), Lib.hid ((hK.set_ 0 _).set_ 1 _)⟩
/-- the two blocks of a call of Edit: the edit, and the range that is returned -/
theorem ed_boxes (w : World) (v0 v1 v2 : Value) : ∃ w1 w2 g, w1 = w.alloc (.cells #[v0, v1, v2] 46) ∧ w2 = w1.alloc (.cells #[.int .i64 0, .int .i64 0] 52) ∧ g = w.heap.size + 1 ∧ Hid (Below w.heap.size w w2) ∧ Hid (Blk w2 w.heap.size 46 #[v0, v1, v2]) ∧ Hid (Blk w2 g 52 #[.int .i64 0, .int .i64 0]) := by
  obtain ⟨w1, hw1, HB1, HK1⟩ := boxV w 46 #[v0, v1, v2]
  obtain ⟨w2, hw2, HB2', HK2'⟩ := boxV w1 52 #[.int .i64 0, .int .i64 0]
  have hs1 : w1.heap.size = w.heap.size + 1 := by rw [hw1]; simp
  rw [hs1] at HK2'
  exact ⟨w1, w2, w.heap.size + 1, hw1, hw2, rfl, Lib.hid (HB1.out.trans (HB2'.out.mono HB1.out.size)), Lib.hid (HK1.out.after HB2'.out), HK2'⟩
set_option maxRecDepth 100000 in
set_option maxHeartbeats 2000000 in
theorem edit_nil (v0 v1 : Value) (A : Option Addr) (m c : Nat) (w : World) : Calls Try.prog 16 #[.pointer none, .agg #[v0, v1, .slice A m c]] w (RetEd0 w 16) := by
  obtain ⟨w1, w2, g, hw1, hw2, hgw, HB2, HK2, HK2'⟩ := ed_boxes w v0 v1 (.slice A m c)
  obtain ⟨w3, hw3, HB, HK3⟩ := rng_set HK2'.out HB2.out (by omega)
  obtain ⟨q0, q1, ql⟩ := blk2 HK2'.out
  have f0 := HK2'.out.free 0
  have f1 := HK2'.out.free 1
  obtain ⟨r0, r1, rl⟩ := blk2 HK3.out
  go_enter Try.func16, Try.ntmps16
  go_upto_region 1 with fail
  rw [← hw1, ← hw2, ← hgw]
  have HGW := Lib.hid hgw
  clear hw1 hw2 hgw
  go_wp2
  rw [← hw3]
  clear hw3 q0 q1 ql f0 f1
  refine bodyPost_ret (v := .tuple #[.agg #[.int .i64 0, .int .i64 0], .int .i64 16]) ?_ rfl ⟨rfl, HB.out⟩
  simp [results, Try.results16, go_sem, r0, r1]
set_option maxRecDepth 100000 in
set_option maxHeartbeats 2000000 in
theorem edit_zero (v0 v1 : Value) (A : Option Addr) (m c D T : Nat) (cs : Array Value) (w : World) (hD : Blk w D T cs) (h11 : cs[11]? = some (.bool false)) : Calls Try.prog 16 #[.pointer (some ⟨D, 0, none⟩), .agg #[v0, v1, .slice A m c]] w (RetEd0 w 16) := by
  obtain ⟨w1, w2, g, hw1, hw2, hgw, HB2, HK2, HK2'⟩ := ed_boxes w v0 v1 (.slice A m c)
  obtain ⟨w3, hw3, HB, HK3⟩ := rng_set HK2'.out HB2.out (by omega)
  obtain ⟨q0, q1, ql⟩ := blk2 HK2'.out
  have f0 := HK2'.out.free 0
  have f1 := HK2'.out.free 1
  obtain ⟨r0, r1, rl⟩ := blk2 HK3.out
  have hd2 := hD.after HB2.out
  have e11 := (hd2.cell 11).trans h11
  have el := hd2.lt
  clear hD h11 hd2
  go_enter Try.func16, Try.ntmps16
  go_upto_region 1 with fail
  rw [← hw1, ← hw2, ← hgw]
  have HGW := Lib.hid hgw
  clear hw1 hw2 hgw
  go_wp2
  rw [← hw3]
  clear hw3 q0 q1 ql f0 f1 e11 el
  refine bodyPost_ret (v := .tuple #[.agg #[.int .i64 0, .int .i64 0], .int .i64 16]) ?_ rfl ⟨rfl, HB.out⟩
  simp [results, Try.results16, go_sem, r0, r1]
set_option maxRecDepth 100000 in
set_option maxHeartbeats 2000000 in
theorem edit_no (x y : Int) (B D : Nat) (uv : Value) (p : PR) (t : BT) (X : List Int) (U : List EdN) (A : Option Addr) (m c n : Nat) (w : World) (h : DocAt w B D uv p t X U) (hn : X.length = n) (hc : checkB x y n = 1) :
    Calls Try.prog 16 #[.pointer (some ⟨D, 0, none⟩), .agg #[.int .i64 x, .int .i64 y, .slice A m c]] w (RetEd0 w 1) := by
  obtain ⟨w1, w2, g, hw1, hw2, hgw, HB2, HK2, HK2'⟩ := ed_boxes w (.int .i64 x) (.int .i64 y) (.slice A m c)
  have hd2 := h.after HB2.out
  have e11 := hd2.open_
  obtain ⟨At, cX, e9, -⟩ := hd2.text
  rw [hn] at e9
  have el := hd2.lt
  have CA := Lib.hid (fun (u : World) => apply_no x y A At m c cX n u hc)
  unfold RetInts2 at CA
  clear h hd2 hn hc
  go_enter Try.func16, Try.ntmps16
  go_upto_region 1 with fail
  rw [← hw1, ← hw2, ← hgw]
  have HGW := Lib.hid hgw
  clear hw1 hw2 hgw
  go_upto_region 3 with fail
  refine wp_region_tree (fun w' => w'.cell? ⟨D, 9, none⟩ = some (.slice At n cX) ∧ D < w'.heap.size ∧ Blk w' w.heap.size 46 #[.int .i64 x, .int .i64 y, .slice A m c]) (.float 0 (.float 1 (.float 2 (.float 3 (.float 4 (.one 5 (.float 6 (.float 7 (.float 8 (.float 9 (.float 10 .done))))))))))) (by kernel_rfl) (by kernel_rfl) (fun _ _ d _ _ h => by cases d <;> exact h) ⟨e9, el, HK2.out.drew⟩ ?_
  repeat (first
    | (refine wpTr_fskip (by simp only [List.getElem?_toArray, List.getElem?_cons_zero, List.getElem?_cons_succ]; rfl) (by rfl) ?_
       simp only [Act.put, List.setIfInBounds_toArray, List.set_cons_zero, List.set_cons_succ])
    | (refine wpTr_float (v := ?_) (by simp only [List.getElem?_toArray, List.getElem?_cons_zero, List.getElem?_cons_succ]; rfl) (by rfl) (fun w' hS => ?_) ?_
       rotate_left
       ((obtain ⟨hS9, hSl, hSE⟩ := hS; obtain ⟨s0', s1', s2'⟩ := hSE.cells3; have sl' := hSE.lt); go_simp; first | done | rfl)
       simp only [Act.put, List.setIfInBounds_toArray, List.set_cons_zero, List.set_cons_succ]))
  refine wpTr_one ?_
  refine stepTr_K (by simp only [List.getElem?_toArray, List.getElem?_cons_zero, List.getElem?_cons_succ]; rfl) (by rfl) (fun K hK => ?_)
  go_simp
  refine (CA.out w2.drew).mono ?_
  rintro e w3 ⟨A3, c3, rfl, g1, g2, hr3, hn3, hb3⟩
  have hb3' : Below w2.heap.size w2 w3 := (Below.refl _ _).drew.trans hb3
  have HB3 := Lib.hid (HB2.out.trans (hb3'.mono HB2.out.size))
  have HK3 := Lib.hid (HK2'.out.after hb3')
  have e93 := (hb3'.cell (p := ⟨D, 9, none⟩) el).trans e9
  have hl3 : D < w3.heap.size := by have := hb3'.size; omega
  refine hK.out _ _ ⟨e93, hl3, HK2.out.after hb3'⟩ ?_
  clear hK K hr3 hn3 hb3 hb3' CA g1 g2 e9 e11 el
  try simp only [Act.put, List.setIfInBounds_toArray, List.set_cons_zero, List.set_cons_succ]
  repeat (first
    | (refine wpTr_fskip (by simp only [List.getElem?_toArray, List.getElem?_cons_zero, List.getElem?_cons_succ]; rfl) (by rfl) ?_
       simp only [Act.put, List.setIfInBounds_toArray, List.set_cons_zero, List.set_cons_succ])
    | (refine wpTr_float (v := ?_) (by simp only [List.getElem?_toArray, List.getElem?_cons_zero, List.getElem?_cons_succ]; rfl) (by rfl) (fun w' hS => ?_) ?_
       rotate_left
       ((skip); go_simp; first | done | rfl)
       simp only [Act.put, List.setIfInBounds_toArray, List.set_cons_zero, List.set_cons_succ]))
  refine wpTr_done ?_
  obtain ⟨w4, hw4, HB, HK4⟩ := rng_set HK3.out HB3.out (by rw [HGW.out]; omega)
  obtain ⟨q0, q1, ql⟩ := blk2 HK3.out
  have f0 := HK3.out.free 0
  have f1 := HK3.out.free 1
  obtain ⟨r0, r1, rl⟩ := blk2 HK4.out
  go_wp2
  rw [← hw4]
  clear hw4 q0 q1 ql f0 f1
  refine bodyPost_ret (v := .tuple #[.agg #[.int .i64 0, .int .i64 0], .int .i64 1]) ?_ rfl ⟨rfl, HB.out⟩
  simp [results, Try.results16, go_sem, r0, r1]
end Go.Proofs.Ytkpblieanejmeaa
namespace Go.UtYtkpblieanejmeaa
open Go.RowKit
theorem Blk.kept {w w' : World} {B b T : Nat} {E : Nat → Prop} {cs : Array Value} (h : Blk w b T cs) (hk : Kept B E w w') (hE : ¬ E b) : Blk w' b T cs := (hk.2 b h.lt hE).trans h
theorem amB_cell {w : World} {g T n p : Nat} {l : List Int} {v : Bool} (h : Blk w g T ((amB n l).map Value.bool).toArray) (hp : p ≤ n) (hv : decide ((p : Int) ∈ l) = v) : w.cell? ⟨g, p, none⟩ = some (.bool v) := by
  rw [h.cell, List.getElem?_toArray, List.getElem?_map, amB_get hp, hv]
  rfl
end Go.UtYtkpblieanejmeaa
namespace Go.Proofs.Ytkpblieanejmeaa
open Go.RowKit Go.UtYtkpblieanejmeaa
/-- the call edits the document, and returns the range outside of which boundaries have only moved -/
def RetEdE (E : Nat → Prop) (w : World) (B D : Nat) (uv : Value) (p : PR) (t : BT) (X : List Int) (U : List EdN) (i d : Nat) (ins : List Int) (e : Ending) (w' : World) : Prop :=
  ∃ (lo hi : Nat) (uv' : Value), e = .returned (.tuple #[.agg #[.int .i64 (lo : Int), .int .i64 (hi : Int)], .int .i64 0]) ∧ IsLo (bndL p t X) (bndL p t (apN i d ins X)) i lo ∧
    IsHi (bndL p t X) (bndL p t (apN i d ins X)) (i + ins.length) (apN i d ins X).length ((ins.length : Int) - (d : Int)) hi ∧
    DocAtE E w' B D uv' p t (apN i d ins X) (U ++ [(i, ins.length, (X.drop i).take d)]) ∧ Kept B (Foot D uv) w w' ∧ Grew w (Foot D uv) (Foot D uv')
set_option maxRecDepth 100000 in
set_option maxHeartbeats 4000000 in
theorem edit_anyE (E : Nat → Prop) (B D : Nat) (uv : Value) (p : PR) (t : BT) (X : List Int) (U : List EdN) (i d : Nat) (ins : List Int) (A : Option Addr) (m c : Nat) (w : World) (h : DocAtE E w B D uv p t X U) (hE : ∀ b, E b → b < w.heap.size) (hA : Row (era w (Foot D uv)) w.heap.size A (ints ins)) (hm : ins.length = m) (hc : m ≤ c) (hcm : c ≤ maxLen)
    (hU : U.length ≤ 1000) (hid : i + d ≤ X.length) (hl : X.length + ins.length ≤ 10000) (hsp : p.spans.length ≤ 100000) (hsm : t.cls.length ≤ 1000 ∧ t.act.length ≤ 1000) :
    Calls Try.prog 16 #[.pointer (some ⟨D, 0, none⟩), .agg #[.int .i64 (i : Int), .int .i64 (d : Int), .slice A m c]] w (RetEdE E w B D uv p t X U i d ins) := by
  obtain ⟨w1, w2, g, hw1, hw2, hgw, HB2, HK2, HK2'⟩ := ed_boxes w (.int .i64 (i : Int)) (.int .i64 (d : Int)) (.slice A m c)
  obtain ⟨X', hX'⟩ : ∃ X', apN i d ins X = X' := ⟨_, rfl⟩
  unfold RetEdE
  rw [hX', hm]
  have hk02 : Kept B (Foot D uv) w w2 := Kept.below h.doc.baseLe HB2.out
  have hd2 := h.doc.after HB2.out
  have HFL := Lib.hid h.doc.footLt
  have HBw := Lib.hid h.doc.baseLe
  have HA2 := Lib.hid (hA.kept hk02 (Grew.refl _ _))
  have HK02 := Lib.hid hk02
  have HD2 := Lib.hid hd2
  have HX2 : Hid (DocAtE (fun b => E b ∨ b = g) w2 B D uv p t X U) := Lib.hid (h.moreE HB2.out (fun b hb => hb.imp id (fun hb => by omega)))
  have HFE : Hid (∀ b, FootE (fun b => E b ∨ b = g) D uv b → b < w2.heap.size) := Lib.hid (fun b hb => by
    rcases hb with hb | hb | hb
    · exact hd2.footLt b hb
    · exact Nat.lt_of_lt_of_le (hE b hb) HB2.out.size
    · rw [hb]
      exact HK2'.out.lt)
  have HEE := Lib.hid hE
  have HX' := Lib.hid hX'
  have HM := Lib.hid hm
  have HID := Lib.hid hid
  have HL := Lib.hid hl
  have HSP := Lib.hid (And.intro hsp hsm)
  have HCM := Lib.hid (And.intro hc hcm)
  have HUL := Lib.hid hU
  obtain ⟨n, hn⟩ : ∃ n, X.length = n := ⟨_, rfl⟩
  obtain ⟨n', hn'⟩ : ∃ n, X'.length = n := ⟨_, rfl⟩
  have HN := Lib.hid hn
  have HN' := Lib.hid hn'
  have hnd : n' + d = n + m := by
    have := apN_len (ins := ins) hid
    rw [hX', hn'] at this
    omega
  have hnn : n' ≤ 10000 := by omega
  have hin : i + d ≤ n := by omega
  have hn10 : n + m ≤ 10000 := by omega
  rw [hn']
  have HNN := Lib.hid (And.intro hnd hin)
  obtain ⟨At, cX, e9, hrt, ht1, ht2⟩ := hd2.text
  have e11 := hd2.open_
  have el := hd2.lt
  rw [hn] at e9 ht1
  have HRT := Lib.hid hrt
  have hap : appZ i d ins X = (X', 0) := by
    unfold appZ
    rw [if_neg (by rw [checkB_ok hid (by omega)]; decide)]
    rw [← hX']
    rfl
  obtain ⟨Y, hY⟩ : ∃ Y, (X.drop i).take d = Y := ⟨_, rfl⟩
  have hin2 : invZ i d m X = ((i : Int), (m : Int), Y, (0 : Int)) := by
    unfold invZ
    rw [if_neg (by rw [checkB_ok hid (by omega)]; decide)]
    rw [← hY]
    rfl
  have hYl : Y.length = d := by rw [← hY]; simp; omega
  have HY := Lib.hid hYl
  have CA0 := fun (u : World) (hu : Below w2.heap.size w2 u) => apply_all i d A At c cX u.heap.size ins X u ((HA2.out.of_era.below hu).more hu.size) ((HRT.out.of_era.below hu).more hu.size) (Nat.le_refl _) (by rw [hn]; exact ht1) (by omega) X' 0 hap
  have CI0 := fun (u : World) (hu : Below w2.heap.size w2 u) => invert_all i d A At m c cX u.heap.size X u ((HRT.out.of_era.below hu).more hu.size) (Nat.le_refl _) (by rw [hn]; exact ht1) (by omega) i m Y 0 hin2
  unfold RetInts2 at CA0
  unfold RetEdit2 at CI0
  rw [hm, hn, hn'] at CA0
  rw [hn, hYl] at CI0
  have CA := Lib.hid CA0
  have CI := Lib.hid CI0
  rw [hY]
  clear CA0 CI0 h hd2 hn hn' hA hX' hm hid hl hsp hsm hc hcm hU hk02 hrt hap hin2 hY hYl hnd hin hE
  go_enter Try.func16, Try.ntmps16
  go_upto_region 1 with fail
  rw [← hw1, ← hw2, ← hgw]
  have HGW := Lib.hid hgw
  clear hw1 hw2 hgw
  go_upto_region 3 with fail
  refine wp_region_tree (fun w' => w'.cell? ⟨D, 9, none⟩ = some (.slice At n cX) ∧ D < w'.heap.size ∧ Blk w' w.heap.size 46 #[.int .i64 (i : Int), .int .i64 (d : Int), .slice A m c]) (.float 0 (.float 1 (.float 2 (.float 3 (.float 4 (.one 5 (.float 6 (.float 7 (.float 8 (.float 9 (.float 10 .done))))))))))) (by kernel_rfl) (by kernel_rfl) (fun _ _ d _ _ h => by cases d <;> exact h) ⟨e9, el, HK2.out.drew⟩ ?_
  repeat (first
    | (refine wpTr_fskip (by simp only [List.getElem?_toArray, List.getElem?_cons_zero, List.getElem?_cons_succ]; rfl) (by rfl) ?_
       simp only [Act.put, List.setIfInBounds_toArray, List.set_cons_zero, List.set_cons_succ])
    | (refine wpTr_float (v := ?_) (by simp only [List.getElem?_toArray, List.getElem?_cons_zero, List.getElem?_cons_succ]; rfl) (by rfl) (fun w' hS => ?_) ?_
       rotate_left
       ((obtain ⟨hS9, hSl, hSE⟩ := hS; obtain ⟨s0', s1', s2'⟩ := hSE.cells3; have sl' := hSE.lt); go_simp; first | done | rfl)
       simp only [Act.put, List.setIfInBounds_toArray, List.set_cons_zero, List.set_cons_succ]))
  refine wpTr_one ?_
  refine stepTr_K (by simp only [List.getElem?_toArray, List.getElem?_cons_zero, List.getElem?_cons_succ]; rfl) (by rfl) (fun K hK => ?_)
  go_simp
  refine (CA.out w2.drew (Below.refl _ _).drew).mono ?_
  rintro e w3 ⟨A3, c3, rfl, g1, g2, hr3, hn3, hb3⟩
  have hb3' : Below w2.heap.size w2 w3 := (Below.refl _ _).drew.trans hb3
  have HB23 := Lib.hid hb3'
  have HB3 := Lib.hid (HB2.out.trans (hb3'.mono HB2.out.size))
  have HK3 := Lib.hid (HK2.out.after hb3')
  have HK3' := Lib.hid (HK2'.out.after hb3')
  have HD3 := Lib.hid (HD2.out.after hb3')
  have HR3 : Hid (Row (era w3 (FootE (fun b => E b ∨ b = g) D uv)) w3.heap.size A3 (ints X')) := Lib.hid (hr3.era_new hn3 (fun b hb => HFE.out b hb))
  have HX3 := Lib.hid (HX2.out.after hb3')
  have HC3 := Lib.hid (And.intro g1 g2)
  have e93 := (hb3'.cell (p := ⟨D, 9, none⟩) el).trans e9
  have hl3 : D < w3.heap.size := by have := hb3'.size; omega
  refine hK.out _ _ ⟨e93, hl3, HK3.out⟩ ?_
  clear hK K hr3 hn3 hb3 hb3' CA g1 g2 e9 e11 el
  try simp only [Act.put, List.setIfInBounds_toArray, List.set_cons_zero, List.set_cons_succ]
  repeat (first
    | (refine wpTr_fskip (by simp only [List.getElem?_toArray, List.getElem?_cons_zero, List.getElem?_cons_succ]; rfl) (by rfl) ?_
       simp only [Act.put, List.setIfInBounds_toArray, List.set_cons_zero, List.set_cons_succ])
    | (refine wpTr_float (v := ?_) (by simp only [List.getElem?_toArray, List.getElem?_cons_zero, List.getElem?_cons_succ]; rfl) (by rfl) (fun w' hS => ?_) ?_
       rotate_left
       ((skip); go_simp; first | done | rfl)
       simp only [Act.put, List.setIfInBounds_toArray, List.set_cons_zero, List.set_cons_succ]))
  refine wpTr_done ?_
  go_upto_region 8 with fail
  go_cut [8, 9] from 43 to 51 (fun s8 s9 wx => ∃ (g8 : Nat) (A8 : Option Addr) (c8 : Nat), s8 = .pointer (some ⟨g8, 0, none⟩) ∧ s9 = .int .i64 0 ∧ Hid (Blk wx g8 46 #[.int .i64 (i : Int), .int .i64 (m : Int), .slice A8 d c8]) ∧ Hid (w.heap.size ≤ g8) ∧ Hid ((Row (era wx (FootE (fun b => E b ∨ b = g) D uv)) wx.heap.size A8 (ints Y)) ∧ d ≤ c8 ∧ c8 ≤ maxLen) ∧ Hid (Below w3.heap.size w3 wx))
  case first =>
    refine wp_region_tree (fun w' => w'.cell? ⟨D, 9, none⟩ = some (.slice At n cX) ∧ D < w'.heap.size ∧ Blk w' w.heap.size 46 #[.int .i64 (i : Int), .int .i64 (d : Int), .slice A m c]) (.float 0 (.float 1 (.float 2 (.float 3 (.float 4 (.two 5 (.float 6 (.float 7 (.float 8 (.one 9 (.one 10 (.float 11 .done)))))) 9 (.one 5 (.float 6 (.float 7 (.float 8 (.one 10 (.float 11 .done)))))))))))) (by kernel_rfl) (by kernel_rfl) (fun _ _ d _ _ h => by cases d <;> exact h) ⟨e93, hl3, HK3.out.drew⟩ ?_
    repeat (first
      | (refine wpTr_fskip (by simp only [List.getElem?_toArray, List.getElem?_cons_zero, List.getElem?_cons_succ]; rfl) (by rfl) ?_
         simp only [Act.put, List.setIfInBounds_toArray, List.set_cons_zero, List.set_cons_succ])
      | (refine wpTr_float (v := ?_) (by simp only [List.getElem?_toArray, List.getElem?_cons_zero, List.getElem?_cons_succ]; rfl) (by rfl) (fun w' hS => ?_) ?_
         rotate_left
         ((obtain ⟨hS9, hSl, hSE⟩ := hS; obtain ⟨s0', s1', s2'⟩ := hSE.cells3; have sl' := hSE.lt); go_simp; first | done | rfl)
         simp only [Act.put, List.setIfInBounds_toArray, List.set_cons_zero, List.set_cons_succ]))
    obtain ⟨w3d, hw3d⟩ : ∃ z, z = w3.drew := ⟨_, rfl⟩
    have HBD : Hid (Below w3.heap.size w3 w3d) := by
      rw [hw3d]
      exact (Below.refl _ _).drew
    have HED : Hid (Blk w3d w.heap.size 46 #[.int .i64 (i : Int), .int .i64 (d : Int), .slice A m c]) := Lib.hid (HK3.out.after HBD.out)
    have e9d := (HBD.out.cell (p := ⟨D, 9, none⟩) hl3).trans e93
    have hld : D < w3d.heap.size := by have := HBD.out.size; omega
    rw [← hw3d]
    clear hw3d
    refine wpTr_two ?_ ?_
    · refine stepTr_K (by simp only [List.getElem?_toArray, List.getElem?_cons_zero, List.getElem?_cons_succ]; rfl) (by rfl) (fun K hK => ?_)
      go_simp
      refine (CI.out w3d (HB23.out.trans (HBD.out.mono HB23.out.size))).mono ?_
      rintro e w4 ⟨A8, c8, rfl, g1, g2, hr8, hn8, hb4⟩
      have hb4' : Below w3.heap.size w3 w4 := HBD.out.trans (hb4.mono HBD.out.size)
      have HC8 := Lib.hid (And.intro g1 g2)
      have HN8 : Hid (NewAt w3.heap.size A8) := Lib.hid (hn8.mono HBD.out.size)
      have HB4 := Lib.hid hb4'
      have HR4 := Lib.hid hr8
      refine hK.out _ _ ⟨(hb4'.cell (p := ⟨D, 9, none⟩) hl3).trans e93, by have := hb4'.size; omega, HK3.out.after hb4'⟩ ?_
      clear hK K g1 g2 hr8 hn8 hb4 hb4'
      try simp only [Act.put, List.setIfInBounds_toArray, List.set_cons_zero, List.set_cons_succ]
      repeat (first
        | (refine wpTr_fskip (by simp only [List.getElem?_toArray, List.getElem?_cons_zero, List.getElem?_cons_succ]; rfl) (by rfl) ?_
           simp only [Act.put, List.setIfInBounds_toArray, List.set_cons_zero, List.set_cons_succ])
        | (refine wpTr_float (v := ?_) (by simp only [List.getElem?_toArray, List.getElem?_cons_zero, List.getElem?_cons_succ]; rfl) (by rfl) (fun w' hS => ?_) ?_
           rotate_left
           ((skip); go_simp; first | done | rfl)
           simp only [Act.put, List.setIfInBounds_toArray, List.set_cons_zero, List.set_cons_succ]))
      refine wpTr_one ?_
      refine stepTr_K (by simp only [List.getElem?_toArray, List.getElem?_cons_zero, List.getElem?_cons_succ]; rfl) (by rfl) (fun K hK => ?_)
      go_simp
      obtain ⟨w5, hw5, HB45, HZ⟩ := boxV w4 46 #[.int .i64 0, .int .i64 0, .slice none 0 0]
      have HB5 := Lib.hid (HB4.out.trans (HB45.out.mono HB4.out.size))
      obtain ⟨g8, hg8'⟩ : ∃ z, z = w4.heap.size := ⟨_, rfl⟩
      rw [← hg8'] at HZ
      have hg8 : w3.heap.size ≤ g8 := by have := HB4.out.size; omega
      have HR8 : Hid (Row w5 w5.heap.size A8 (ints Y) ∧ (ints Y ≠ [] → ∀ b o, A8 = some ⟨b, o, none⟩ → b ≠ g8)) := Lib.hid ⟨(HR4.out.below HB45.out).lt, fun hne b o e => by
        obtain ⟨b', o', e', hb', _⟩ := HR4.out hne
        rw [e] at e'
        injection e' with e'
        injection e' with e1 e2
        omega⟩
      rw [← hw5, ← hg8']
      refine hK.out _ _ ⟨(HB5.out.cell (p := ⟨D, 9, none⟩) hl3).trans e93, by have := HB5.out.size; omega, HK3.out.after HB5.out⟩ ?_
      clear hK K hw5 hg8'
      try simp only [Act.put, List.setIfInBounds_toArray, List.set_cons_zero, List.set_cons_succ]
      obtain ⟨k0, k1, k2⟩ := HZ.out.cells3
      obtain ⟨f0, f1, f2⟩ := HZ.out.free3
      have kl := HZ.out.lt
      obtain ⟨w6, hw6, HZ6, HS6, HB6, HR6⟩ : ∃ z, z = ((w5.setCell ⟨g8, 0, none⟩ (.int .i64 (i : Int))).setCell ⟨g8, 1, none⟩ (.int .i64 (m : Int))).setCell ⟨g8, 2, none⟩ (.slice A8 d c8) ∧ Hid (Blk z g8 46 #[.int .i64 (i : Int), .int .i64 (m : Int), .slice A8 d c8]) ∧ Hid (z.cell? ⟨D, 9, none⟩ = some (.slice At n cX) ∧ D < z.heap.size ∧ Blk z w.heap.size 46 #[.int .i64 (i : Int), .int .i64 (d : Int), .slice A m c]) ∧ Hid (Below w3.heap.size w3 z) ∧ Hid ((Row (era z (FootE (fun b => E b ∨ b = g) D uv)) z.heap.size A8 (ints Y)) ∧ d ≤ c8 ∧ c8 ≤ maxLen) := by
        have hz : (((w5.setCell ⟨g8, 0, none⟩ (.int .i64 (i : Int))).setCell ⟨g8, 1, none⟩ (.int .i64 (m : Int))).setCell ⟨g8, 2, none⟩ (.slice A8 d c8)).heap.size = w5.heap.size := by simp [World.setCell]
        have hq : ∀ q, q ≠ g8 → (((w5.setCell ⟨g8, 0, none⟩ (.int .i64 (i : Int))).setCell ⟨g8, 1, none⟩ (.int .i64 (m : Int))).setCell ⟨g8, 2, none⟩ (.slice A8 d c8)).heap[q]? = w5.heap[q]? := fun q hq => (Below.heap_setCell _ _ _ q hq).trans ((Below.heap_setCell _ _ _ q hq).trans (Below.heap_setCell _ _ _ q hq))
        have hbz := below_set3 HB5.out (show w3.heap.size ≤ g8 from hg8) (.int .i64 (i : Int)) (.int .i64 (m : Int)) (.slice A8 d c8)
        have hw3 : w.heap.size < w3.heap.size := HK3.out.lt
        refine ⟨_, rfl, Lib.hid (((HZ.out.set_ 0 _).set_ 1 _).set_ 2 _), Lib.hid ⟨?_, ?_, ?_⟩, Lib.hid hbz, Lib.hid ⟨?_, HC8.out⟩⟩
        · exact (hbz.cell (p := ⟨D, 9, none⟩) hl3).trans e93
        · have := hbz.size
          omega
        · exact HK3.out.after hbz
        · refine Row.era_new (N := w3.heap.size) ?_ HN8.out (fun b hb => by have := HFE.out b hb; have := HB23.out.size; omega)
          rw [hz]
          intro hne
          obtain ⟨b, o, e1, hb, hcell⟩ := HR8.out.1 hne
          exact ⟨b, o, e1, hb, fun k v hk => (World.cell?_of_block (a := ⟨b, o + k, none⟩) (hq b (HR8.out.2 hne b o e1))).trans (hcell k v hk)⟩
      refine wpTr_one ?_
      refine stepTr_K (by simp only [List.getElem?_toArray, List.getElem?_cons_zero, List.getElem?_cons_succ]; rfl) (by rfl) (fun K hK => ?_)
      go_simp
      rw [← hw6]
      refine hK.out _ _ HS6.out ?_
      clear hK K hw6 k0 k1 k2 f0 f1 f2 kl
      try simp only [Act.put, List.setIfInBounds_toArray, List.set_cons_zero, List.set_cons_succ]
      repeat (first
        | (refine wpTr_fskip (by simp only [List.getElem?_toArray, List.getElem?_cons_zero, List.getElem?_cons_succ]; rfl) (by rfl) ?_
           simp only [Act.put, List.setIfInBounds_toArray, List.set_cons_zero, List.set_cons_succ])
        | (refine wpTr_float (v := ?_) (by simp only [List.getElem?_toArray, List.getElem?_cons_zero, List.getElem?_cons_succ]; rfl) (by rfl) (fun w' hS => ?_) ?_
           rotate_left
           ((skip); go_simp; first | done | rfl)
           simp only [Act.put, List.setIfInBounds_toArray, List.set_cons_zero, List.set_cons_succ]))
      refine wpTr_done ?_
      go_wp2
      go_meet
      case rel => exact ⟨g8, A8, c8, rfl, rfl, HZ6, Lib.hid (by have := HK3.out.lt; omega), HR6, HB6⟩
    · refine stepTr_K (by simp only [List.getElem?_toArray, List.getElem?_cons_zero, List.getElem?_cons_succ]; rfl) (by rfl) (fun K hK => ?_)
      go_simp
      obtain ⟨w4, hw4, HB34, HZ0⟩ := boxV w3d 46 #[.int .i64 0, .int .i64 0, .slice none 0 0]
      have HB4 : Hid (Below w3.heap.size w3 w4) := Lib.hid (HBD.out.trans (HB34.out.mono HBD.out.size))
      obtain ⟨g8, hg8'⟩ : ∃ z, z = w3d.heap.size := ⟨_, rfl⟩
      rw [← hg8'] at HZ0
      have hg8 : w3.heap.size ≤ g8 := by have := HBD.out.size; omega
      rw [← hw4, ← hg8']
      refine hK.out _ _ ⟨(HB4.out.cell (p := ⟨D, 9, none⟩) hl3).trans e93, by have := HB4.out.size; omega, HK3.out.after HB4.out⟩ ?_
      clear hK K hw4 hg8'
      try simp only [Act.put, List.setIfInBounds_toArray, List.set_cons_zero, List.set_cons_succ]
      refine wpTr_one ?_
      refine stepTr_K (by simp only [List.getElem?_toArray, List.getElem?_cons_zero, List.getElem?_cons_succ]; rfl) (by rfl) (fun K hK => ?_)
      go_simp
      refine (CI.out w4 (HB23.out.trans (HB4.out.mono HB23.out.size))).mono ?_
      rintro e w5 ⟨A8, c8, rfl, g1, g2, hr8, hn8, hb5⟩
      have hb5' : Below w3.heap.size w3 w5 := HB4.out.trans (hb5.mono HB4.out.size)
      have HC8 := Lib.hid (And.intro g1 g2)
      have HN8 : Hid (NewAt w3.heap.size A8) := Lib.hid (hn8.mono HB4.out.size)
      have HB5 := Lib.hid hb5'
      have HZ := Lib.hid (HZ0.out.after hb5)
      have HR8 : Hid (Row w5 w5.heap.size A8 (ints Y) ∧ (ints Y ≠ [] → ∀ b o, A8 = some ⟨b, o, none⟩ → b ≠ g8)) := Lib.hid ⟨hr8, fun hne b o e => by
        have h1 := hn8 _ e
        have h2 := HZ0.out.lt
        simp at h1
        omega⟩
      refine hK.out _ _ ⟨(hb5'.cell (p := ⟨D, 9, none⟩) hl3).trans e93, by have := hb5'.size; omega, HK3.out.after hb5'⟩ ?_
      clear hK K g1 g2 hr8 hn8 hb5 hb5' HZ0
      try simp only [Act.put, List.setIfInBounds_toArray, List.set_cons_zero, List.set_cons_succ]
      repeat (first
        | (refine wpTr_fskip (by simp only [List.getElem?_toArray, List.getElem?_cons_zero, List.getElem?_cons_succ]; rfl) (by rfl) ?_
           simp only [Act.put, List.setIfInBounds_toArray, List.set_cons_zero, List.set_cons_succ])
        | (refine wpTr_float (v := ?_) (by simp only [List.getElem?_toArray, List.getElem?_cons_zero, List.getElem?_cons_succ]; rfl) (by rfl) (fun w' hS => ?_) ?_
           rotate_left
           ((skip); go_simp; first | done | rfl)
           simp only [Act.put, List.setIfInBounds_toArray, List.set_cons_zero, List.set_cons_succ]))
      obtain ⟨k0, k1, k2⟩ := HZ.out.cells3
      obtain ⟨f0, f1, f2⟩ := HZ.out.free3
      have kl := HZ.out.lt
      obtain ⟨w6, hw6, HZ6, HS6, HB6, HR6⟩ : ∃ z, z = ((w5.setCell ⟨g8, 0, none⟩ (.int .i64 (i : Int))).setCell ⟨g8, 1, none⟩ (.int .i64 (m : Int))).setCell ⟨g8, 2, none⟩ (.slice A8 d c8) ∧ Hid (Blk z g8 46 #[.int .i64 (i : Int), .int .i64 (m : Int), .slice A8 d c8]) ∧ Hid (z.cell? ⟨D, 9, none⟩ = some (.slice At n cX) ∧ D < z.heap.size ∧ Blk z w.heap.size 46 #[.int .i64 (i : Int), .int .i64 (d : Int), .slice A m c]) ∧ Hid (Below w3.heap.size w3 z) ∧ Hid ((Row (era z (FootE (fun b => E b ∨ b = g) D uv)) z.heap.size A8 (ints Y)) ∧ d ≤ c8 ∧ c8 ≤ maxLen) := by
        have hz : (((w5.setCell ⟨g8, 0, none⟩ (.int .i64 (i : Int))).setCell ⟨g8, 1, none⟩ (.int .i64 (m : Int))).setCell ⟨g8, 2, none⟩ (.slice A8 d c8)).heap.size = w5.heap.size := by simp [World.setCell]
        have hq : ∀ q, q ≠ g8 → (((w5.setCell ⟨g8, 0, none⟩ (.int .i64 (i : Int))).setCell ⟨g8, 1, none⟩ (.int .i64 (m : Int))).setCell ⟨g8, 2, none⟩ (.slice A8 d c8)).heap[q]? = w5.heap[q]? := fun q hq => (Below.heap_setCell _ _ _ q hq).trans ((Below.heap_setCell _ _ _ q hq).trans (Below.heap_setCell _ _ _ q hq))
        have hbz := below_set3 HB5.out (show w3.heap.size ≤ g8 from hg8) (.int .i64 (i : Int)) (.int .i64 (m : Int)) (.slice A8 d c8)
        have hw3 : w.heap.size < w3.heap.size := HK3.out.lt
        refine ⟨_, rfl, Lib.hid (((HZ.out.set_ 0 _).set_ 1 _).set_ 2 _), Lib.hid ⟨?_, ?_, ?_⟩, Lib.hid hbz, Lib.hid ⟨?_, HC8.out⟩⟩
        · exact (hbz.cell (p := ⟨D, 9, none⟩) hl3).trans e93
        · have := hbz.size
          omega
        · exact HK3.out.after hbz
        · refine Row.era_new (N := w3.heap.size) ?_ HN8.out (fun b hb => by have := HFE.out b hb; have := HB23.out.size; omega)
          rw [hz]
          intro hne
          obtain ⟨b, o, e1, hb, hcell⟩ := HR8.out.1 hne
          exact ⟨b, o, e1, hb, fun k v hk => (World.cell?_of_block (a := ⟨b, o + k, none⟩) (hq b (HR8.out.2 hne b o e1))).trans (hcell k v hk)⟩
      refine wpTr_one ?_
      refine stepTr_K (by simp only [List.getElem?_toArray, List.getElem?_cons_zero, List.getElem?_cons_succ]; rfl) (by rfl) (fun K hK => ?_)
      go_simp
      rw [← hw6]
      refine hK.out _ _ HS6.out ?_
      clear hK K hw6 k0 k1 k2 f0 f1 f2 kl
      try simp only [Act.put, List.setIfInBounds_toArray, List.set_cons_zero, List.set_cons_succ]
      repeat (first
        | (refine wpTr_fskip (by simp only [List.getElem?_toArray, List.getElem?_cons_zero, List.getElem?_cons_succ]; rfl) (by rfl) ?_
           simp only [Act.put, List.setIfInBounds_toArray, List.set_cons_zero, List.set_cons_succ])
        | (refine wpTr_float (v := ?_) (by simp only [List.getElem?_toArray, List.getElem?_cons_zero, List.getElem?_cons_succ]; rfl) (by rfl) (fun w' hS => ?_) ?_
           rotate_left
           ((skip); go_simp; first | done | rfl)
           simp only [Act.put, List.setIfInBounds_toArray, List.set_cons_zero, List.set_cons_succ]))
      refine wpTr_done ?_
      go_wp2
      go_meet
      case rel => exact ⟨g8, A8, c8, rfl, rfl, HZ6, Lib.hid (by have := HK3.out.lt; omega), HR6, HB6⟩
  case rest =>
    obtain ⟨g8, A8, c8, rfl, rfl, HZ4, HG8, HR8, HB4⟩ := hcut
    have hb4 := HB4.out
    have HBW4 := Lib.hid (HB3.out.trans (hb4.mono HB3.out.size))
    have HK4 := Lib.hid (HK3.out.after hb4)
    have HK4' := Lib.hid (HK3'.out.after hb4)
    have HX4 := Lib.hid (HX3.out.after hb4)
    have HR4 : Hid (Row (era wc (FootE (fun b => E b ∨ b = g) D uv)) wc.heap.size A3 (ints X')) := Lib.hid (HR3.out.kept (Kept.below (by have := HX3.out.doc.baseLe; exact this) hb4) (Grew.refl _ _))
    clear hb4 e93 hl3 HR3 HX3 HK3 HK3' HD3
    obtain ⟨At', cX', e9, -, -⟩ := HX4.out.doc.text
    obtain ⟨Ac, cC, e10, hrc, hcc⟩ := HX4.out.doc.cuts
    rw [HN.out] at e9
    have el := HX4.out.doc.lt
    obtain ⟨b0, hb0⟩ : ∃ b, bndL p t X = b := ⟨_, rfl⟩
    obtain ⟨b1, hb1⟩ : ∃ b, bndL p t X' = b := ⟨_, rfl⟩
    have hbb0 := bnd_le p t X
    have hbb1 := bnd_le p t X'
    have hbl0 := bnd_len p t X
    have hbl1 := bnd_len p t X'
    rw [HN.out] at hbb0 hbl0
    rw [HN'.out] at hbb1 hbl1
    rw [hb0] at hbb0 hbl0 e10 hrc
    rw [hb1] at hbb1 hbl1
    obtain ⟨nb, hnb⟩ : ∃ k, b0.length = k := ⟨_, rfl⟩
    rw [hnb] at e10 hbl0
    have CM := Lib.hid (fun (u : World) (hu : Below wc.heap.size wc u) => among_any Ac nb cC n b0 u (hrc.of_era.below hu).lt hnb (by omega) (by omega) hbb0)
    have HBB1 := Lib.hid hbb1
    have HBL1 := Lib.hid hbl1
    have HB0 := Lib.hid hb0
    have HB1 := Lib.hid hb1
    clear hrc hcc hbb0 hbb1 hbl0 hbl1 hb0 hb1 hnb
    go_upto_region 9 with fail
    refine wp_region_tree (fun w' => w'.cell? ⟨D, 9, none⟩ = some (.slice At' n cX') ∧ w'.cell? ⟨D, 10, none⟩ = some (.slice Ac nb cC) ∧ D < w'.heap.size) (.float 0 (.float 1 (.float 2 (.float 3 (.float 4 (.float 5 (.float 6 (.float 7 (.float 8 (.one 9 (.float 10 .done))))))))))) (by kernel_rfl) (by kernel_rfl) (fun _ _ d _ _ h => by cases d <;> exact h) ⟨e9, e10, el⟩ ?_
    repeat (first
      | (refine wpTr_fskip (by simp only [List.getElem?_toArray, List.getElem?_cons_zero, List.getElem?_cons_succ]; rfl) (by rfl) ?_
         simp only [Act.put, List.setIfInBounds_toArray, List.set_cons_zero, List.set_cons_succ])
      | (refine wpTr_float (v := ?_) (by simp only [List.getElem?_toArray, List.getElem?_cons_zero, List.getElem?_cons_succ]; rfl) (by rfl) (fun w' hS => ?_) ?_
         rotate_left
         ((obtain ⟨hS9, hS10, hSl⟩ := hS); go_simp; first | done | rfl)
         simp only [Act.put, List.setIfInBounds_toArray, List.set_cons_zero, List.set_cons_succ]))
    refine wpTr_one ?_
    refine stepTr_K (by simp only [List.getElem?_toArray, List.getElem?_cons_zero, List.getElem?_cons_succ]; rfl) (by rfl) (fun K hK => ?_)
    go_simp
    refine (CM.out wc.drew (Below.refl _ _).drew).mono ?_
    rintro e w5 ⟨rfl, hk5, hb5⟩
    have hb5' : Below wc.heap.size wc w5 := (Below.refl _ _).drew.trans hb5.out
    obtain ⟨gb, hgb⟩ : ∃ z, z = wc.drew.heap.size := ⟨_, rfl⟩
    rw [← hgb] at hk5 ⊢
    have HGB : Hid (w.heap.size ≤ gb) := Lib.hid (by rw [hgb]; exact HBW4.out.size)
    have HBW5 := Lib.hid (HBW4.out.trans (hb5'.mono HBW4.out.size))
    have HK5 := Lib.hid (HK4.out.after hb5')
    have HK5' := Lib.hid (HK4'.out.after hb5')
    have HX5 := Lib.hid (HX4.out.after hb5')
    have HZ5 := Lib.hid (HZ4.out.after hb5')
    have hk45 : Kept B (Foot D uv) wc w5 := Kept.below (by have := HX4.out.doc.baseLe; exact this) hb5'
    have HR5 : Hid (Row (era w5 (FootE (fun b => E b ∨ b = g) D uv)) w5.heap.size A3 (ints X')) := Lib.hid (HR4.out.kept hk45.ext (Grew.refl _ _))
    have HQ5 : Hid (Row (era w5 (FootE (fun b => E b ∨ b = g) D uv)) w5.heap.size A8 (ints Y) ∧ d ≤ c8 ∧ c8 ≤ maxLen) := Lib.hid ⟨HR8.out.1.kept hk45.ext (Grew.refl _ _), HR8.out.2⟩
    have HP5 := Lib.hid hk5.out
    refine hK.out _ _ ⟨(hb5'.cell (p := ⟨D, 9, none⟩) el).trans e9, (hb5'.cell (p := ⟨D, 10, none⟩) el).trans e10, by have := hb5'.size; omega⟩ ?_
    clear hK K hk5 hb5 hb5' hgb hk45 HR4 HR8 HX4 HK4 HK4' HZ4 e9 e10 el CM
    try simp only [Act.put, List.setIfInBounds_toArray, List.set_cons_zero, List.set_cons_succ]
    repeat (first
      | (refine wpTr_fskip (by simp only [List.getElem?_toArray, List.getElem?_cons_zero, List.getElem?_cons_succ]; rfl) (by rfl) ?_
         simp only [Act.put, List.setIfInBounds_toArray, List.set_cons_zero, List.set_cons_succ])
      | (refine wpTr_float (v := ?_) (by simp only [List.getElem?_toArray, List.getElem?_cons_zero, List.getElem?_cons_succ]; rfl) (by rfl) (fun w' hS => ?_) ?_
         rotate_left
         ((skip); go_simp; first | done | rfl)
         simp only [Act.put, List.setIfInBounds_toArray, List.set_cons_zero, List.set_cons_succ]))
    refine wpTr_done ?_
    go_upto_region 10 with fail
    have HX5d : Hid (DocAtE (fun b => E b ∨ b = g) w5.drew B D uv p t X U) := Lib.hid (HX5.out.after (Below.refl _ _).drew)
    have HQ5d : Hid (Row (era w5.drew (FootE (fun b => E b ∨ b = g) D uv)) w5.drew.heap.size A8 (ints Y)) := Lib.hid (HQ5.out.1.kept (Kept.below (B := B) (by have := HX5.out.doc.baseLe; exact this) (Below.refl _ _).drew) (Grew.refl _ _))
    refine wp_region_tree (fun w' => Blk w' g8 46 #[.int .i64 (i : Int), .int .i64 (m : Int), .slice A8 d c8]) (.float 0 (.float 1 (.float 2 (.float 3 (.one 4 .done))))) (by kernel_rfl) (by kernel_rfl) (fun _ _ d _ _ h => by cases d <;> exact h) HZ5.out.drew ?_
    repeat (first
      | (refine wpTr_fskip (by simp only [List.getElem?_toArray, List.getElem?_cons_zero, List.getElem?_cons_succ]; rfl) (by rfl) ?_
         simp only [Act.put, List.setIfInBounds_toArray, List.set_cons_zero, List.set_cons_succ])
      | (refine wpTr_float (v := ?_) (by simp only [List.getElem?_toArray, List.getElem?_cons_zero, List.getElem?_cons_succ]; rfl) (by rfl) (fun w' hS => ?_) ?_
         rotate_left
         ((obtain ⟨s0', s1', s2'⟩ := hS.cells3; have sl' := hS.lt); go_simp; first | done | rfl)
         simp only [Act.put, List.setIfInBounds_toArray, List.set_cons_zero, List.set_cons_succ]))
    refine wpTr_one ?_
    refine stepTr_K (by simp only [List.getElem?_toArray, List.getElem?_cons_zero, List.getElem?_cons_succ]; rfl) (by rfl) (fun K hK => ?_)
    go_simp
    refine (push_any (fun b => E b ∨ b = g) B D uv p t X U i m d Y A8 c8 w5.drew HX5d.out HQ5d.out HY.out HQ5.out.2.1 HQ5.out.2.2 HUL.out).mono ?_
    rintro e w6 ⟨⟨v6, rfl⟩, uv6, hx6, hk6', hg6'⟩
    have HK56 : Hid (Kept B (Foot D uv) w5 w6) := Lib.hid ((Kept.below (by have := HX5.out.doc.baseLe; exact this) (Below.refl _ _).drew).trans (Grew.refl _ _) hk6')
    have HG56 : Hid (Grew w5 (Foot D uv) (Foot D uv6)) := Lib.hid hg6'
    have hnf : ∀ b, w.heap.size ≤ b → ¬ Foot D uv b := fun b hb h => by have := HFL.out b h; omega
    have HX6 := Lib.hid hx6
    have HK6 := Lib.hid (HK5.out.kept HK56.out (hnf _ (Nat.le_refl _)))
    have HK6' := Lib.hid (HK5'.out.kept HK56.out (hnf _ (by rw [HGW.out]; omega)))
    have HZ6 := Lib.hid (HZ5.out.kept HK56.out (hnf _ HG8.out))
    have HP6 := Lib.hid (HP5.out.kept HK56.out (hnf _ HGB.out))
    have HR6 : Hid (Row (era w6 (FootE (fun b => E b ∨ b = g) D uv6)) w6.heap.size A3 (ints X')) := Lib.hid (HR5.out.kept HK56.out.ext HG56.out.ext)
    have HNF6 : Hid (∀ b, w.heap.size ≤ b → b < w5.heap.size → ¬ Foot D uv6 b) := Lib.hid (fun b h1 h2 h => by
      rcases HG56.out b h with h3 | h3
      · exact hnf b h1 h3
      · omega)
    have HKW6 : Hid (Kept B (Foot D uv) w w6) := Lib.hid (Kept.trans (E' := Foot D uv) (Kept.below HBw.out HBW5.out) (Grew.refl _ _) HK56.out)
    have HGW6 : Hid (Grew w (Foot D uv) (Foot D uv6)) := Lib.hid (Grew.trans HBW5.out.size (Grew.refl _ _) HG56.out)
    have HLT5 : Hid (w.heap.size < w5.heap.size ∧ g < w5.heap.size ∧ gb < w5.heap.size ∧ w5.heap.size ≤ w6.heap.size) := Lib.hid ⟨HK5.out.lt, HK5'.out.lt, HP5.out.lt, HK56.out.1.size⟩
    refine hK.out _ _ HZ6.out ?_
    clear hK K hx6 hk6' hg6' hnf HX5d HQ5d HK5 HK5' HZ5 HP5 HR5 HQ5 HX5
    try simp only [Act.put, List.setIfInBounds_toArray, List.set_cons_zero, List.set_cons_succ]
    refine wpTr_done ?_
    go_upto_region 12 with (first
      | (go_at_call 40
         refine (set_anyE (fun b => E b ∨ b = g) B D uv6 p t X' (U ++ [(i, m, Y)]) A3 n' c3 w6 HX6.out.raw (fun b hb => by
           have := HLT5.out
           rcases hb with hb | hb
           · have := HEE.out b hb
             omega
           · omega) HR6.out HN'.out HC3.out.1 HC3.out.2 HSP.out.1 HSP.out.2 hnn).mono ?_
         rintro e w7 ⟨⟨v7, rfl⟩, hx7, hk7⟩
         have HX7 := Lib.hid hx7
         have HK67 := Lib.hid hk7
         clear hx7 hk7))
    have HK7 := Lib.hid (HK6.out.kept HK67.out (HNF6.out _ (Nat.le_refl _) HLT5.out.1))
    have HK7' := Lib.hid (HK6'.out.kept HK67.out (HNF6.out _ (by rw [HGW.out]; omega) HLT5.out.2.1))
    have HP7 := Lib.hid (HP6.out.kept HK67.out (HNF6.out _ HGB.out HLT5.out.2.2.1))
    have HKW7 : Hid (Kept B (Foot D uv) w w7) := Lib.hid (HKW6.out.trans HGW6.out HK67.out)
    obtain ⟨Ac7, cC7, e10, hrc, hcc⟩ := HX7.out.doc.cuts
    have el := HX7.out.doc.lt
    rw [HB1.out] at e10 hrc
    obtain ⟨nb1, hnb1⟩ : ∃ k, b1.length = k := ⟨_, rfl⟩
    have CM := Lib.hid (among_any Ac7 nb1 cC7 n' b1 w7 hrc.of_era hnb1 (by have := HBL1.out; omega) (by omega) HBB1.out)
    rw [hnb1] at e10
    clear HK6 HK6' HP6 HKW6 HR6 HX6 HZ6 hrc hcc hnb1
    obtain ⟨hnd, hin⟩ := HNN.out
    have hib : i + m ≤ n' := by omega
    have hin' : i ≤ n := by omega
    have hnd' : n' + d ≤ n + m := by omega
    clear hnd hin
    go_upto_block 0 with (first
      | (go_at_call 46
         refine CM.out.mono ?_
         rintro e w8 ⟨rfl, hk8, hb8⟩
         have HK8 := Lib.hid (HK7.out.after hb8.out)
         have HK8' := Lib.hid (HK7'.out.after hb8.out)
         have HP8 := Lib.hid (HP7.out.after hb8.out)
         have HX8 := Lib.hid (HX7.out.after hb8.out)
         have HKW8 : Hid (Kept B (Foot D uv) w w8) := Lib.hid (HKW7.out.trans HGW6.out (Kept.below (by have := HX7.out.doc.baseLe; exact this) hb8.out))
         obtain ⟨ga, hga⟩ : ∃ z, z = w7.heap.size := ⟨_, rfl⟩
         rw [← hga] at hk8 ⊢
         have HA8 := Lib.hid hk8.out
         obtain ⟨q0, q1, q2⟩ := HK8.out.cells3
         have ql := HK8.out.lt
         clear hk8 hb8 hga CM))
    obtain ⟨w9, hw9, HB9, HC9⟩ := boxV w8 52 #[.int .i64 (i : Int), .int .i64 ((i : Int) + (m : Int))]
    obtain ⟨gc, hgc⟩ : ∃ z, z = w8.heap.size := ⟨_, rfl⟩
    rw [← hw9, ← hgc]
    rw [← hgc] at HC9
    have HGC := Lib.hid hgc
    clear hw9 hgc q0 q1 q2 ql e10 el
    go_cut [14] from 89 to 103 (fun _ wx => ∃ lo : Nat, Hid (IsLo b0 b1 i lo) ∧ Hid (Blk wx gc 52 #[.int .i64 (lo : Int), .int .i64 ((i : Int) + (m : Int))]) ∧ Hid (Below w8.heap.size w8 wx))
    case first =>
      go_wp2
      go_loopw [89] (fun u wr => ∃ k : Nat, k ≤ i ∧ u = .int .i64 (k : Int) ∧ Hid (∀ q : Nat, q < k → ¬ difN b0 b1 q q) ∧ Hid (Blk wr gc 52 #[.int .i64 (i : Int), .int .i64 ((i : Int) + (m : Int))]) ∧ Hid (Below w8.heap.size w8 wr)) (fun u _ => i - (intOf u).toNat)
      case atStart => exact ⟨0, by omega, rfl, Lib.hid (fun q hq => by omega), HC9, HB9⟩
      case round =>
        obtain ⟨k, hk, rfl, HD, HC, HB⟩ := hrel
        by_cases hki : k < i
        · obtain ⟨va, hva⟩ : ∃ v, decide ((k : Int) ∈ b0) = v := ⟨_, rfl⟩
          obtain ⟨vb, hvb⟩ : ∃ v, decide ((k : Int) ∈ b1) = v := ⟨_, rfl⟩
          have ca := amB_cell (HP8.out.after HB.out) (show k ≤ n by omega) hva
          have cb := amB_cell (HA8.out.after HB.out) (show k ≤ n' by omega) hvb
          have la := (HP8.out.after HB.out).lt
          have lb := (HA8.out.after HB.out).lt
          have HVA := Lib.hid hva
          have HVB := Lib.hid hvb
          clear hva hvb
          by_cases hne : va = vb
          · have dq : (va != vb) = false := by simp [hne]
            have dq2 : (va == vb) = true := by simp [hne]
            have HD' : Hid (∀ q : Nat, q < k + 1 → ¬ difN b0 b1 q q) := Lib.hid (fun q hq => by
              by_cases e : q = k
              · subst e
                intro h
                refine h ?_
                rw [← decide_eq_decide, HVA.out, HVB.out, hne]
              · exact HD.out q (by omega))
            clear hne
            go_wp2
            go_quiet (fail)
            go_wp2
            go_roundw
            case rel => exact ⟨k + 1, by omega, by go_num, HD', HC.out.drewN _, below_drewN HB.out _⟩
            case measure => simp [intOf]; omega
          · have dq : (va != vb) = true := by simp [hne]
            have dq2 : (va == vb) = false := by simp [hne]
            have HLO : Hid (IsLo b0 b1 i k) := Lib.hid (isLo_hit HD.out (by omega) (fun h => hne (by
              rw [← HVA.out, ← HVB.out]
              exact decide_eq_decide.2 h)))
            have hcl := HC.out.lt
            obtain ⟨cc0, cc1, -⟩ := blk2 HC.out
            have cf0 := HC.out.free 0
            clear hne
            go_wp2
            go_quiet (fail)
            go_wp2
            go_meet
            case rel => exact ⟨k, HLO, (HC.out.drewN _).set_ 0 _, (below_drewN HB.out _).setCell (p := ⟨gc, 0, none⟩) (by show _ ≤ gc; rw [HGC.out]; exact Nat.le_refl _) _⟩
        · have HLO : Hid (IsLo b0 b1 i i) := Lib.hid (isLo_miss (fun q hq => HD.out q (by omega)))
          go_wp2
          go_meet
          case rel => exact ⟨i, HLO, HC, HB⟩
    case rest =>
      obtain ⟨lo, HLO, HC10, HB10⟩ := hcut
      have HK10 := Lib.hid (HK8.out.after HB10.out)
      go_upto_block 2 with fail
      go_cut [15] from 106 to 128 (fun _ wx => ∃ hi : Nat, Hid (IsHi b0 b1 (i + m) n' ((m : Int) - (d : Int)) hi) ∧ Hid (Blk wx gc 52 #[.int .i64 (lo : Int), .int .i64 (hi : Int)]) ∧ Hid (Below w8.heap.size w8 wx))
      case first =>
        go_wp2
        go_loopw [15] (fun u wr => ∃ k : Nat, i + m ≤ k ∧ k ≤ n' ∧ u = .int .i64 (k : Int) ∧ Hid (∀ r : Nat, k < r → r ≤ n' → ¬ difN b0 b1 ((r : Int) - ((m : Int) - (d : Int))) r) ∧ Hid (Blk wr gc 52 #[.int .i64 (lo : Int), .int .i64 ((i : Int) + (m : Int))]) ∧ Hid (Below w8.heap.size w8 wr)) (fun u _ => (intOf u).toNat - (i + m))
        case atStart => exact ⟨n', hib, Nat.le_refl _, rfl, Lib.hid (fun r h1 h2 => by omega), HC10, HB10⟩
        case round =>
          obtain ⟨k, hk1, hk2, rfl, HD, HC, HB⟩ := hrel
          by_cases hki : i + m < k
          · obtain ⟨j, hj⟩ : ∃ j : Nat, (k : Int) - (m : Int) + (d : Int) = (j : Int) := ⟨k - m + d, by omega⟩
            have hjn : j ≤ n := by omega
            have HJ : Hid ((k : Int) - ((m : Int) - (d : Int)) = (j : Int)) := Lib.hid (by omega)
            obtain ⟨va, hva⟩ : ∃ v, decide ((j : Int) ∈ b0) = v := ⟨_, rfl⟩
            obtain ⟨vb, hvb⟩ : ∃ v, decide ((k : Int) ∈ b1) = v := ⟨_, rfl⟩
            have ca := amB_cell (HP8.out.after HB.out) hjn hva
            have cb := amB_cell (HA8.out.after HB.out) (show k ≤ n' by omega) hvb
            have la := (HP8.out.after HB.out).lt
            have lb := (HA8.out.after HB.out).lt
            obtain ⟨q0, q1, q2⟩ := (HK8.out.after HB.out).cells3
            have ql := (HK8.out.after HB.out).lt
            have HVA := Lib.hid hva
            have HVB := Lib.hid hvb
            clear hva hvb
            by_cases hne : va = vb
            · have dq : (va != vb) = false := by simp [hne]
              have dq2 : (va == vb) = true := by simp [hne]
              have dq3 : (vb == va) = true := by simp [hne]
              have HD' : Hid (∀ r : Nat, k - 1 < r → r ≤ n' → ¬ difN b0 b1 ((r : Int) - ((m : Int) - (d : Int))) r) := Lib.hid (fun r h1 h2 => by
                by_cases e : r = k
                · subst e
                  intro h
                  refine h ?_
                  rw [HJ.out, ← decide_eq_decide, HVA.out, HVB.out, hne]
                · exact HD.out r (by omega) h2)
              clear hne
              go_wp2
              go_quiet (fail)
              go_wp2
              go_roundw
              case rel => exact ⟨k - 1, by omega, by omega, by go_num, HD', HC.out.drewN _, below_drewN HB.out _⟩
              case measure => simp [intOf]; omega
            · have dq : (va != vb) = true := by simp [hne]
              have dq2 : (va == vb) = false := by simp [hne]
              have dq3 : (vb == va) = false := by simpa using fun h => hne (Eq.symm h)
              have HHI : Hid (IsHi b0 b1 (i + m) n' ((m : Int) - (d : Int)) k) := Lib.hid (isHi_hit HD.out (by omega) (by omega) (fun h => hne (by
                rw [← HVA.out, ← HVB.out]
                rw [HJ.out] at h
                exact decide_eq_decide.2 h)))
              have hcl := HC.out.lt
              obtain ⟨cc0, cc1, -⟩ := blk2 HC.out
              have cf1 := HC.out.free 1
              clear hne
              go_wp2
              go_quiet (fail)
              go_wp2
              go_meet
              case rel => exact ⟨k, HHI, (HC.out.drewN _).set_ 1 _, (below_drewN HB.out _).setCell (p := ⟨gc, 1, none⟩) (by show _ ≤ gc; rw [HGC.out]; exact Nat.le_refl _) _⟩
          · obtain rfl : k = i + m := by omega
            have HHI : Hid (IsHi b0 b1 (i + m) n' ((m : Int) - (d : Int)) (i + m)) := Lib.hid (isHi_miss (fun r h1 h2 => HD.out r h1 h2) hib)
            go_wp2
            go_meet
            case rel => exact ⟨i + m, HHI, HC, HB⟩
      case rest =>
        obtain ⟨hi, HHI, HC11, HB11⟩ := hcut
        have HR11 := Lib.hid (HK8'.out.after HB11.out)
        obtain ⟨q0, q1, ql⟩ := blk2 HC11.out
        obtain ⟨r0, r1, rl⟩ := blk2 HR11.out
        have f0 := HR11.out.free 0
        have f1 := HR11.out.free 1
        obtain ⟨wf, hwf, HKF, HXF, HRF⟩ : ∃ z, z = (wc.setCell ⟨g, 0, none⟩ (.int .i64 (lo : Int))).setCell ⟨g, 1, none⟩ (.int .i64 (hi : Int)) ∧ Hid (Kept B (Foot D uv) w z) ∧ Hid (DocAtE E z B D uv6 p t X' (U ++ [(i, m, Y)])) ∧ Hid (Blk z g 52 #[.int .i64 (lo : Int), .int .i64 (hi : Int)]) := by
          have hk : ∀ b, b ≠ g → ((wc.setCell ⟨g, 0, none⟩ (.int .i64 (lo : Int))).setCell ⟨g, 1, none⟩ (.int .i64 (hi : Int))).heap[b]? = wc.heap[b]? := fun b hb => (Below.heap_setCell _ _ _ b hb).trans (Below.heap_setCell _ _ _ b hb)
          have hz : ((wc.setCell ⟨g, 0, none⟩ (.int .i64 (lo : Int))).setCell ⟨g, 1, none⟩ (.int .i64 (hi : Int))).heap.size = wc.heap.size := by simp [World.setCell]
          have hgw : w.heap.size < g := by rw [HGW.out]; omega
          have hkx : Kept B (Foot D uv) w wc := HKW8.out.trans HGW6.out (Kept.below (by have := HX8.out.doc.baseLe; exact this) HB11.out)
          have hDw := HFL.out D (.inl rfl)
          have hBw := HBw.out
          refine ⟨_, rfl, Lib.hid ⟨(hkx.1.setCell (p := ⟨g, 0, none⟩) (by show B ≤ g; omega) _).setCell (p := ⟨g, 1, none⟩) (by show B ≤ g; omega) _, fun b h1 h2 => (hk b (by omega)).trans (hkx.2 b h1 h2)⟩, Lib.hid ((HX8.out.after HB11.out).back2' (fun b hb => hk b hb) hz (by show ¬ D = g; omega) (fun b hb e => HNF6.out g (by omega) HLT5.out.2.1 (by rw [← show b = g from e]; exact .inr hb))), Lib.hid ?_⟩
          exact (HR11.out.set_ 0 _).set_ 1 _
        go_wp2
        rw [← hwf]
        obtain ⟨j0, j1, jl⟩ := blk2 HRF.out
        clear hwf q0 q1 ql r0 r1 rl f0 f1
        refine bodyPost_ret (v := .tuple #[.agg #[.int .i64 (lo : Int), .int .i64 (hi : Int)], .int .i64 0]) ?_ rfl ⟨lo, hi, uv6, rfl, by rw [HB0.out, HB1.out]; exact HLO.out, by rw [HB0.out, HB1.out]; exact HHI.out, HXF.out, HKF.out, HGW6.out⟩
        simp [results, Try.results16, go_sem, j0, j1]
/-- the call edits the document, and returns the range outside of which boundaries have only moved -/
def RetEd (w : World) (B D : Nat) (uv : Value) (p : PR) (t : BT) (X : List Int) (U : List EdN) (i d : Nat) (ins : List Int) (e : Ending) (w' : World) : Prop :=
  ∃ (lo hi : Nat) (uv' : Value), e = .returned (.tuple #[.agg #[.int .i64 (lo : Int), .int .i64 (hi : Int)], .int .i64 0]) ∧ IsLo (bndL p t X) (bndL p t (apN i d ins X)) i lo ∧
    IsHi (bndL p t X) (bndL p t (apN i d ins X)) (i + ins.length) (apN i d ins X).length ((ins.length : Int) - (d : Int)) hi ∧
    DocAt w' B D uv' p t (apN i d ins X) (U ++ [(i, ins.length, (X.drop i).take d)]) ∧ Kept B (Foot D uv) w w' ∧ Grew w (Foot D uv) (Foot D uv')
theorem edit_any (B D : Nat) (uv : Value) (p : PR) (t : BT) (X : List Int) (U : List EdN) (i d : Nat) (ins : List Int) (A : Option Addr) (m c : Nat) (w : World) (h : DocAt w B D uv p t X U) (hA : Row (era w (Foot D uv)) w.heap.size A (ints ins)) (hm : ins.length = m) (hc : m ≤ c) (hcm : c ≤ maxLen)
    (hU : U.length ≤ 1000) (hid : i + d ≤ X.length) (hl : X.length + ins.length ≤ 10000) (hsp : p.spans.length ≤ 100000) (hsm : t.cls.length ≤ 1000 ∧ t.act.length ≤ 1000) :
    Calls Try.prog 16 #[.pointer (some ⟨D, 0, none⟩), .agg #[.int .i64 (i : Int), .int .i64 (d : Int), .slice A m c]] w (RetEd w B D uv p t X U i d ins) := by
  refine (edit_anyE (fun _ => False) B D uv p t X U i d ins A m c w (docAtE_false.2 h) (fun b hb => hb.elim) hA hm hc hcm hU hid hl hsp hsm).mono ?_
  rintro e w' ⟨lo, hi, uv', h1, h2, h3, h4, h5⟩
  exact ⟨lo, hi, uv', h1, h2, h3, docAtE_false.1 h4, h5⟩
end Go.Proofs.Ytkpblieanejmeaa
