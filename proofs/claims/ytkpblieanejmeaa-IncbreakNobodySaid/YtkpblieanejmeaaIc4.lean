/-
  (*incbreak.history).push.
  (*incbreak.history).pop.
-/
import Derived.Test.YtkpblieanejmeaaIb1
import Derived.Test.YtkpblieanejmeaaIc0
import Derived.Test.YtkpblieanejmeaaTrl
namespace Go.Proofs.Ytkpblieanejmeaa
open Go.RowKit Go.UtYtkpblieanejmeaa
theorem edit_inf : (Try.prog.info? 46).map (fun i => (i.zero, i.size, i.bytes)) = some (some (.agg #[.int .i64 0, .int .i64 0, .slice none 0 0]), 3, 40) := by kernel_rfl
set_option maxRecDepth 100000 in
set_option maxHeartbeats 2000000 in
theorem push_any (E : Nat → Prop) (B D : Nat) (uv : Value) (p : PR) (t : BT) (X : List Int) (U : List EdN) (i d m : Nat) (ins : List Int) (A : Option Addr) (c : Nat) (w : World) (h : DocAtE E w B D uv p t X U) (hA : Row (era w (FootE E D uv)) w.heap.size A (ints ins)) (hm : ins.length = m) (hc : m ≤ c) (hcm : c ≤ maxLen) (hU : U.length ≤ 1000) :
    Calls Try.prog 47 #[.pointer (some ⟨D, 0, none⟩), .agg #[.int .i64 (i : Int), .int .i64 (d : Int), .slice A m c]] w fun e w' => (∃ v, e = .returned v) ∧ ∃ uv', DocAtE E w' B D uv' p t X (U ++ [(i, d, ins)]) ∧ Kept B (Foot D uv) w w' ∧ Grew w (Foot D uv) (Foot D uv') := by
  obtain ⟨x, y, At, cX, Ac, cC, vs, hD, ⟨hBD, hne⟩, ⟨hH, hE⟩, hP, hT, hX, hC⟩ := h
  have hHb := hH.base
  obtain ⟨A0, c0, rfl, k1, k2, k3⟩ := hH.row
  obtain ⟨i0, hi0, hz0, hz1, hz2⟩ := info_parts edit_inf
  obtain ⟨w1, hw1, HB1, HK1⟩ := boxV w 46 #[.int .i64 (i : Int), .int .i64 (d : Int), .slice A m c]
  have HD1 := Lib.hid (hD.after HB1.out)
  have hDl := hD.lt
  obtain ⟨n, hn⟩ : ∃ n, U.length = n := ⟨_, rfl⟩
  rw [hn] at hU hH HD1 hHb hne hE hP hT hX hC hA hD ⊢
  have HN := Lib.hid hn
  have HX0 := Lib.hid hX
  obtain ⟨cs, hcs⟩ : ∃ cs, cs = docC (.slice A0 n c0) x p y t At X.length cX Ac (bndL p t X).length cC := ⟨_, rfl⟩
  rw [← hcs] at HD1 hD
  have hcs0 : cs[0]? = some (.slice A0 n c0) := by rw [hcs]; rfl
  have HCS := Lib.hid hcs
  have HH := Lib.hid hH
  have HE := Lib.hid hE
  have HP := Lib.hid hP
  have HT := Lib.hid hT
  have HC := Lib.hid hC
  have HA := Lib.hid hA
  have HM := Lib.hid hm
  have HHB := Lib.hid hHb
  have HNE := Lib.hid hne
  have hDw : D ≠ w.heap.size := by omega
  clear k1 k2 k3 hH hE hP hT hX hC hA hn hcs hm hHb hne hD
  go_enter Try.func47, Try.ntmps47
  go_upto_region 1 with fail
  rw [← hw1]
  have hs1 : w1.heap.size = w.heap.size + 1 := by rw [hw1]; simp
  clear hw1
  refine wp_region_treeL 10 (fun w' => Blk w' D 71 cs ∧ Blk w' w.heap.size 46 #[.int .i64 (i : Int), .int .i64 (d : Int), .slice A m c]) (.float 0 (.float 1 (.float 2 (.float 3 (.float 4 (.float 5 (.one 6 (.one 7 (.float 8 (.float 9 (.one 10 .done))))))))))) (by kernel_rfl) (by kernel_rfl) (fun _ _ d _ _ h => by cases d <;> exact h) ⟨HD1.out.drew, HK1.out.drew⟩ ?_
  repeat (first
    | (refine wpTrL_fskip (by simp only [List.getElem?_toArray, List.getElem?_cons_zero, List.getElem?_cons_succ]; rfl) (by rfl) ?_
       simp only [Act.put, List.setIfInBounds_toArray, List.set_cons_zero, List.set_cons_succ])
    | (refine wpTrL_float (v := ?_) (by simp only [List.getElem?_toArray, List.getElem?_cons_zero, List.getElem?_cons_succ]; rfl) (by rfl) (fun w' hS => ?_) ?_
       rotate_left
       ((obtain ⟨hSD, hSK⟩ := hS; have e0' := (hSD.cell 0).trans hcs0; have el' := hSD.lt; obtain ⟨s0', s1', s2'⟩ := hSK.cells3; have sl' := hSK.lt); go_simp; first | done | rfl)
       simp only [Act.put, List.setIfInBounds_toArray, List.set_cons_zero, List.set_cons_succ]))
  refine wpTrL_one ?_
  refine stepTrL_K (by simp only [List.getElem?_toArray, List.getElem?_cons_zero, List.getElem?_cons_succ]; rfl) (by rfl) (fun K hK => ?_)
  go_simp
  obtain ⟨w2, hw2, HB2, HL2⟩ : ∃ z, z = (w1.alloc (.cells #[.int .i64 (i : Int), .int .i64 (d : Int), .slice A m c] 46)).drew ∧ Hid (Below w1.heap.size w1 z) ∧ Hid (Blk z (w.heap.size + 1) 46 #[.int .i64 (i : Int), .int .i64 (d : Int), .slice A m c]) :=
    ⟨_, rfl, Lib.hid (((Below.refl _ _).alloc (Nat.le_refl _) _).drew), Lib.hid (by
      rw [← hs1]
      exact (Blk.new w1 _ _).drew)⟩
  rw [← hw2]
  clear hw2
  have HD2 := Lib.hid (HD1.out.after HB2.out)
  have HK2 := Lib.hid (HK1.out.after HB2.out)
  have HBW2 := Lib.hid (HB1.out.trans (HB2.out.mono HB1.out.size))
  have hB2 : B ≤ w2.heap.size := by have := HBW2.out.size; omega
  have HH2 := Lib.hid (HH.out.below HBW2.out)
  obtain ⟨l0, l1, l2⟩ := HL2.out.cells3
  have HL3 := Lib.hid (show ∀ (j : Nat) (u : Value), ([.int .i64 (i : Int), .int .i64 (d : Int), .slice A m c] : List Value)[j]? = some u → w2.cell? ((⟨w.heap.size + 1, 0, none⟩ : Addr).add j) = some u by
    intro j u hj
    match j, hj with
    | 0, hj => simp at hj; subst hj; exact l0
    | 1, hj => simp at hj; subst hj; exact l1
    | 2, hj => simp at hj; subst hj; exact l2)
  refine hK.out _ _ ⟨HD2.out, HK2.out⟩ ?_
  clear hK K l0 l1 l2
  try simp only [Act.put, List.setIfInBounds_toArray, List.set_cons_zero, List.set_cons_succ]
  refine wpTrL_one ?_
  refine stepTrL_K (by simp only [List.getElem?_toArray, List.getElem?_cons_zero, List.getElem?_cons_succ]; rfl) (by rfl) (fun K hK => ?_)
  refine wp_append_his w2 (.tmp 8) (.tmp 10) _ rfl i0 _ 40 Try.underlying67 hi0 hz0 hz1 hz2 rfl B (.slice A0 n c0) n vs rfl HH2.out _ 1 1 [.int .i64 (i : Int), .int .i64 (d : Int), .slice A m c] rfl (by omega) rfl HL3.out (by intro u hu; simp at hu; rcases hu with rfl | rfl | rfl <;> rfl) (by simp only [maxLen]; omega) (by omega) hB2 ?_
  intro q3 w3 o3 g3 t3
  obtain ⟨A3, c3, rfl⟩ := ow_slice (m := n + 1) o3 rfl
  obtain ⟨hk3, hg3⟩ := his_kept (D := D) hB2 g3 HHB.out t3
  have HK3 : Hid (Kept B (Foot D (.slice A0 n c0)) w w3) := Lib.hid ((Kept.below (by omega) HBW2.out).trans (Grew.refl _ _) hk3)
  have HG3 : Hid (Grew w (Foot D (.slice A0 n c0)) (Foot D (.slice A3 (n + 1) c3))) := Lib.hid (Grew.trans HBW2.out.size (Grew.refl _ _) hg3)
  have HNE3 : Hid (∀ g, (Value.slice A3 (n + 1) c3).ownBlock = some g → g ≠ D) := Lib.hid (fun g hg => by
    rcases t3 with e | e
    · exact HNE.out g (e ▸ hg)
    · rw [e] at hg
      injection hg with hg
      have := HBW2.out.size
      omega)
  have hn2 : ∀ b, b < w2.heap.size → b ≠ D → (∀ g, (Value.slice A0 n c0).ownBlock = some g → g ≠ b) → w3.heap[b]? = w2.heap[b]? := fun b h1 h2 h3 => g3.block b h1 (fun e => h3 b e.symm rfl)
  have HD3 : Hid (Blk w3 D 71 cs) := Lib.hid ((g3.block D HD2.out.lt (fun e => HNE.out D e.symm rfl)).trans HD2.out)
  have HE3' : Hid (Blk w3 w.heap.size 46 #[.int .i64 (i : Int), .int .i64 (d : Int), .slice A m c]) := Lib.hid ((hn2 w.heap.size HK2.out.lt (fun e => hDw e.symm) (fun g hg e => by
    have := (HH.out.lt g hg).2
    omega)).trans HK2.out)
  have HO3 := Lib.hid o3
  clear o3 g3 t3 hk3 hg3 hn2
  refine hK.out _ _ ⟨HD3.out, HE3'.out⟩ ?_
  clear hK K
  try simp only [Act.put, List.setIfInBounds_toArray, List.set_cons_zero, List.set_cons_succ]
  repeat (first
    | (refine wpTrL_fskip (by simp only [List.getElem?_toArray, List.getElem?_cons_zero, List.getElem?_cons_succ]; rfl) (by rfl) ?_
       simp only [Act.put, List.setIfInBounds_toArray, List.set_cons_zero, List.set_cons_succ])
    | (refine wpTrL_float (v := ?_) (by simp only [List.getElem?_toArray, List.getElem?_cons_zero, List.getElem?_cons_succ]; rfl) (by rfl) (fun w' hS => ?_) ?_
       rotate_left
       ((skip); go_simp; first | done | rfl)
       simp only [Act.put, List.setIfInBounds_toArray, List.set_cons_zero, List.set_cons_succ]))
  refine wpTrL_one ?_
  refine stepTrL_last (by simp only [List.getElem?_toArray, List.getElem?_cons_zero, List.getElem?_cons_succ]; rfl) (by rfl) (fun K hK => ?_)
  have kk0 := (HD3.out.cell 0).trans hcs0
  have kkl := HD3.out.lt
  have kf0 := HD3.out.free 0
  obtain ⟨w4, hw4, HK4, HR4⟩ : ∃ z, z = w3.setCell ⟨D, 0, none⟩ (.slice A3 (n + 1) c3) ∧ Hid (Kept B (Foot D (.slice A0 n c0)) w z) ∧ Hid (DocAtE E z B D (.slice A3 (n + 1) c3) p t X (U ++ [(i, d, ins)])) := by
    have hk4 : Kept B (Foot D (.slice A3 (n + 1) c3)) w3 (w3.setCell ⟨D, 0, none⟩ (.slice A3 (n + 1) c3)) := doc_set hBD
    have hk : Kept B (Foot D (.slice A0 n c0)) w (w3.setCell ⟨D, 0, none⟩ (.slice A3 (n + 1) c3)) := HK3.out.trans HG3.out hk4
    refine ⟨_, rfl, Lib.hid hk, Lib.hid ⟨x, y, At, cX, Ac, cC, vs ++ [.int .i64 (i : Int), .int .i64 (d : Int), .slice A m c], ?_, ⟨hBD, HNE3.out⟩, ⟨?_, ?_⟩, HP.out.kept hk.ext HG3.out.ext, HT.out.kept hk.ext HG3.out.ext, ⟨HX0.out.1.kept hk.ext HG3.out.ext, HX0.out.2⟩, HC.out.1.kept hk.ext HG3.out.ext, HC.out.2⟩⟩
    · have := HD3.out.set_ 0 (.slice A3 (n + 1) c3)
      rw [HCS.out] at this
      simpa [docC] using this
    · have e : (U ++ [(i, d, ins)]).length = n + 1 := by simp [HN.out]
      rw [e]
      exact HisAt.set (.inl HO3.out) HNE3.out
    · have e1 := HE.out.kept hk.ext HG3.out.ext
      have e2 := HA.out.kept hk.ext HG3.out.ext
      have := e1.push (i := i) (d := d) (ins := ins) (A := A) (c := c) (by rw [HM.out]; exact hc) hcm e2
      rwa [HM.out] at this
  go_simp
  rw [← hw4]
  refine hK.out _ _ ?_
  clear hK K hw4 kk0 kkl kf0
  try simp only [Act.put, List.setIfInBounds_toArray, List.set_cons_zero, List.set_cons_succ]
  refine wpTrL_done ?_
  go_wp2
  go_end0
  exact ⟨⟨_, rfl⟩, _, HR4.out, HK4.out, HG3.out⟩
end Go.Proofs.Ytkpblieanejmeaa
namespace Go.Proofs.Ytkpblieanejmeaa
open Go.RowKit Go.UtYtkpblieanejmeaa
/-- the first elements, the capacity cut to them -/
theorem cut_hm {P : Program} (w : World) (t : TypeId) (a : Option Addr) (len cap : Nat) (ht : P.underlying t = some (.slice (P.elem t))) (kh km : IntKind) (h m : Int) (h0 : 0 ≤ h) (h2 : h ≤ m) (h3 : m ≤ cap) :
    (Instr.slice t (.slice a len cap) none (some (.int kh h)) (some (.int km m))).run P w = ((sizeOf (P.elem t)).run P w).andThen fun _ w => .ok (.slice a h.toNat m.toNat) w := by
  rw [run_slice_hm w t a len cap ht kh km h m h0 h2 h3]
  congr 1
  funext s w
  unfold sliced
  have e : (if m.toNat = 0 then a else a.map fun x => x.add (0 * s)) = a := by
    split
    · rfl
    · cases a <;> simp [Addr.add]
  rw [e]
  rfl
attribute [local go_sem high] cut_hm
set_option maxRecDepth 100000 in
set_option maxHeartbeats 2000000 in
theorem pop_no (D T : Nat) (A0 : Option Addr) (c0 : Nat) (cs : Array Value) (w : World) (hD : Blk w D T cs) (h0 : cs[0]? = some (.slice A0 0 c0)) :
    Calls Try.prog 41 #[.pointer (some ⟨D, 0, none⟩)] w fun e w' => e = .returned (.tuple #[.agg #[.int .i64 0, .int .i64 0, .slice none 0 0], .bool false]) ∧ Below w.heap.size w w' := by
  obtain ⟨w1, hw1, HB1, HK1⟩ := boxV w 46 #[.int .i64 0, .int .i64 0, .slice none 0 0]
  have HD1 := hD.after HB1.out
  have e0 := (HD1.cell 0).trans h0
  have el := HD1.lt
  obtain ⟨k0, k1, k2⟩ := HK1.out.cells3
  obtain ⟨f0, f1, f2⟩ := HK1.out.free3
  have kl := HK1.out.lt
  obtain ⟨w2, hw2, HB2, HK2⟩ : ∃ z, z = ((w1.setCell ⟨w.heap.size, 0, none⟩ (.int .i64 0)).setCell ⟨w.heap.size, 1, none⟩ (.int .i64 0)).setCell ⟨w.heap.size, 2, none⟩ (.slice none 0 0) ∧ Hid (Below w.heap.size w z) ∧ Hid (Blk z w.heap.size 46 #[.int .i64 0, .int .i64 0, .slice none 0 0]) := by
    refine ⟨_, rfl, Lib.hid (below_set3 HB1.out (Nat.le_refl _) _ _ _), Lib.hid ?_⟩
    exact ((HK1.out.set_ 0 _).set_ 1 _).set_ 2 _
  go_enter Try.func41, Try.ntmps41
  go_upto_region 1 with fail
  rw [← hw1]
  clear hw1 hD h0 HD1
  go_wp2
  rw [← hw2]
  obtain ⟨j0, j1, j2⟩ := HK2.out.cells3
  clear hw2 k0 k1 k2 f0 f1 f2 kl e0 el HK2 HK1
  refine bodyPost_ret (v := .tuple #[.agg #[.int .i64 0, .int .i64 0, .slice none 0 0], .bool false]) ?_ rfl ⟨rfl, HB2.out⟩
  simp [results, Try.results41, go_sem, j0, j1, j2]
/-- the call returns the last edit; the document has one less to undo -/
def RetPop (E : Nat → Prop) (w : World) (B D : Nat) (uv : Value) (p : PR) (t : BT) (X : List Int) (U : List EdN) (i d m : Nat) (ins : List Int) (e : Ending) (w' : World) : Prop :=
  ∃ A c uv', e = .returned (.tuple #[.agg #[.int .i64 (i : Int), .int .i64 (d : Int), .slice A m c], .bool true]) ∧ (Row (era w' (FootE E D uv')) w'.heap.size A (ints ins) ∧ m ≤ c ∧ c ≤ maxLen) ∧ DocAtE E w' B D uv' p t X U ∧ Kept B (Foot D uv) w w' ∧ Grew w (Foot D uv) (Foot D uv')
set_option maxRecDepth 100000 in
set_option maxHeartbeats 2000000 in
theorem pop_any (E : Nat → Prop) (B D : Nat) (uv : Value) (p : PR) (t : BT) (X : List Int) (U : List EdN) (i d m : Nat) (ins : List Int) (w : World) (h : DocAtE E w B D uv p t X (U ++ [(i, d, ins)])) (hm : ins.length = m) (hU : U.length ≤ 1000) :
    Calls Try.prog 41 #[.pointer (some ⟨D, 0, none⟩)] w (RetPop E w B D uv p t X U i d m ins) := by
  obtain ⟨x, y, At, cX, Ac, cC, vs, hD, ⟨hBD, hne⟩, ⟨hH, hE⟩, hP, hT, hX, hC⟩ := h
  obtain ⟨hE0, A, c, z0, z1, z2, z3, z4, z5⟩ := hE.pop
  simp only at z0 z1 z2 z3 z5
  rw [hm] at z2 z3
  obtain ⟨k, hk⟩ : ∃ k, U.length = k := ⟨_, rfl⟩
  have hlen := hH.len
  rw [List.length_append, hk] at hlen
  simp only [List.length_append, List.length_cons, List.length_nil, Nat.zero_add, hk] at hH hE hlen
  rw [hk] at hE0 z0 z1 z2 hU
  have hHl := hH.lt
  obtain ⟨A0, c0, rfl, k1, k2, k3⟩ := hH.row
  obtain ⟨b, o, rfl, hb, hcell⟩ := k3 (fun e => by rw [e] at hlen; simp at hlen)
  have y0 := hcell _ _ z0
  have y1 := hcell _ _ z1
  have y2 := hcell _ _ z2
  have hDl := hD.lt
  obtain ⟨w1, hw1, HB1, HK1⟩ := boxV w 46 #[.int .i64 0, .int .i64 0, .slice none 0 0]
  obtain ⟨w2, hw2, HB2', HK2'⟩ := boxV w1 46 #[.int .i64 (i : Int), .int .i64 (d : Int), .slice A m c]
  have hs1 : w1.heap.size = w.heap.size + 1 := by rw [hw1]; simp
  obtain ⟨g, hg⟩ : ∃ g, g = w1.heap.size := ⟨_, rfl⟩
  rw [← hg] at HK2'
  have hgw : g = w.heap.size + 1 := by omega
  have HB2 := Lib.hid (HB1.out.trans (HB2'.out.mono HB1.out.size))
  have HK2 := Lib.hid (HK1.out.after HB2'.out)
  obtain ⟨cs, hcs⟩ : ∃ cs, cs = docC (.slice (some ⟨b, o, none⟩) (k + 1) c0) x p y t At X.length cX Ac (bndL p t X).length cC := ⟨_, rfl⟩
  rw [← hcs] at hD
  have hcs0 : cs[0]? = some (.slice (some ⟨b, o, none⟩) (k + 1) c0) := by rw [hcs]; rfl
  have HCS := Lib.hid hcs
  have HD1 := Lib.hid (hD.after HB1.out)
  have HD2 := Lib.hid (hD.after HB2.out)
  have e1 := (HD1.out.cell 0).trans hcs0
  have el1 := HD1.out.lt
  have e2 := (HD2.out.cell 0).trans hcs0
  have el2 := HD2.out.lt
  have f2 := HD2.out.free 0
  have yb1 : b < w1.heap.size := by omega
  have y01 := (HB1.out.cell (p := ⟨b, o + k * 3, none⟩) hb).trans y0
  have y11 := (HB1.out.cell (p := ⟨b, o + (k * 3 + 1), none⟩) hb).trans y1
  have y21 := (HB1.out.cell (p := ⟨b, o + (k * 3 + 2), none⟩) hb).trans y2
  simp only [← Nat.add_assoc] at y11 y21
  have hgg : Grew w (Foot D (.slice (some ⟨b, o, none⟩) (k + 1) c0)) (Foot D (.slice (some ⟨b, o, none⟩) k k)) := fun _ h => .inl h
  obtain ⟨w3, hw3, HK3⟩ : ∃ z, z = w2.setCell ⟨D, 0, none⟩ (.slice (some ⟨b, o, none⟩) k k) ∧ Hid (Kept B (Foot D (.slice (some ⟨b, o, none⟩) (k + 1) c0)) w z) := by
    have hk2 : Kept B (Foot D (.slice (some ⟨b, o, none⟩) (k + 1) c0)) w w2 := Kept.below (by omega) HB2.out
    have hk3 : Kept B (Foot D (.slice (some ⟨b, o, none⟩) (k + 1) c0)) w2 (w2.setCell ⟨D, 0, none⟩ (.slice (some ⟨b, o, none⟩) k k)) := doc_set hBD
    exact ⟨_, rfl, Lib.hid (hk2.trans (Grew.refl _ _) hk3)⟩
  have hD3 : Blk w3 D 71 (docC (.slice (some ⟨b, o, none⟩) k k) x p y t At X.length cX Ac (bndL p t X).length cC) := by
    rw [hw3]
    have := HD2.out.set_ 0 (.slice (some ⟨b, o, none⟩) k k)
    rw [HCS.out] at this
    simpa [docC] using this
  have hhis3 : HisAt w3 B (.slice (some ⟨b, o, none⟩) k k) k (vs.take (k * 3)) := by
    rw [hw3]
    refine .inr ⟨_, rfl, by omega, by rw [List.length_take, hlen]; omega, fun hne' => ?_, fun g hg => ?_⟩
    · refine ⟨b, o, rfl, ?_, fun j v hj => ?_⟩
      · have := HB2.out.size
        simp [World.setCell]
        omega
      · have hj2 : vs[j]? = some v := by
          rw [List.getElem?_take] at hj
          split at hj
          · exact hj
          · cases hj
        have hbD : b ≠ D := hne b rfl
        rw [World.cell?_of_block (w := w2) (a := ⟨b, o + j, none⟩) (Below.heap_setCell _ _ _ b hbD)]
        exact (HB2.out.cell (p := ⟨b, o + j, none⟩) hb).trans (hcell j v hj2)
    · obtain ⟨q1, q2⟩ := hHl g hg
      have := HB2.out.size
      simp [World.setCell]
      omega
  have HK3' : Hid (Blk w3 w.heap.size 46 #[.int .i64 0, .int .i64 0, .slice none 0 0]) := by
    rw [hw3]
    exact HK2.out.far (p := ⟨D, 0, none⟩) (by show _ ≠ D; omega) _
  have HE3 : Hid (Blk w3 g 46 #[.int .i64 (i : Int), .int .i64 (d : Int), .slice A m c]) := by
    rw [hw3]
    exact HK2'.out.far (p := ⟨D, 0, none⟩) (by show _ ≠ D; omega) _
  obtain ⟨w4, hw4, HKK4, HD4, HZ4, HK4⟩ : ∃ z, z = ((w3.setCell ⟨w.heap.size, 0, none⟩ (.int .i64 (i : Int))).setCell ⟨w.heap.size, 1, none⟩ (.int .i64 (d : Int))).setCell ⟨w.heap.size, 2, none⟩ (.slice A m c) ∧ Hid (Kept B (Foot D (.slice (some ⟨b, o, none⟩) (k + 1) c0)) w z) ∧ Hid (DocAtE E z B D (.slice (some ⟨b, o, none⟩) k k) p t X U) ∧ Hid (Row (era z (FootE E D (.slice (some ⟨b, o, none⟩) k k))) z.heap.size A (ints ins) ∧ m ≤ c ∧ c ≤ maxLen) ∧ Hid (Blk z w.heap.size 46 #[.int .i64 (i : Int), .int .i64 (d : Int), .slice A m c]) := by
    have hbw : B ≤ w.heap.size := by omega
    have hq : ∀ q, q ≠ w.heap.size → (((w3.setCell ⟨w.heap.size, 0, none⟩ (.int .i64 (i : Int))).setCell ⟨w.heap.size, 1, none⟩ (.int .i64 (d : Int))).setCell ⟨w.heap.size, 2, none⟩ (.slice A m c)).heap[q]? = w3.heap[q]? := fun q hq => (Below.heap_setCell _ _ _ q hq).trans ((Below.heap_setCell _ _ _ q hq).trans (Below.heap_setCell _ _ _ q hq))
    have hz : (((w3.setCell ⟨w.heap.size, 0, none⟩ (.int .i64 (i : Int))).setCell ⟨w.heap.size, 1, none⟩ (.int .i64 (d : Int))).setCell ⟨w.heap.size, 2, none⟩ (.slice A m c)).heap.size = w3.heap.size := by simp [World.setCell]
    have hkk : Kept B (Foot D (.slice (some ⟨b, o, none⟩) (k + 1) c0)) w (((w3.setCell ⟨w.heap.size, 0, none⟩ (.int .i64 (i : Int))).setCell ⟨w.heap.size, 1, none⟩ (.int .i64 (d : Int))).setCell ⟨w.heap.size, 2, none⟩ (.slice A m c)) :=
      ⟨below_set3 HK3.out.1 hbw _ _ _, fun q h1 h2 => (hq q (by omega)).trans (HK3.out.2 q h1 h2)⟩
    refine ⟨_, rfl, Lib.hid hkk, Lib.hid ⟨x, y, At, cX, Ac, cC, vs.take (k * 3), (hq D (by omega)).trans hD3, ⟨hBD, hne⟩, ⟨?_, hE0.kept hkk.ext hgg.ext⟩, hP.kept hkk.ext hgg.ext, hT.kept hkk.ext hgg.ext, ⟨hX.1.kept hkk.ext hgg.ext, hX.2⟩, hC.1.kept hkk.ext hgg.ext, hC.2⟩, Lib.hid ⟨z5.kept hkk.ext hgg.ext, z3, z4⟩, Lib.hid ?_⟩
    · rw [hk]
      exact hhis3.keep (by omega) (fun g hg _ => hq g (by have := (hHl g hg).2; omega))
    · exact ((HK3'.out.set_ 0 _).set_ 1 _).set_ 2 _
  obtain ⟨k0, k1', k2'⟩ := HK3'.out.cells3
  obtain ⟨kf0, kf1, kf2⟩ := HK3'.out.free3
  have kl := HK3'.out.lt
  obtain ⟨l0, l1, l2⟩ := HE3.out.cells3
  have ll := HE3.out.lt
  clear hD hE hE0 hP hT hX hC hH hHl hne k3 hcell z0 z1 z2 z5 y0 y1 y2 hk hm HD1 HD2 HK1 HK2 HK2' hlen hcs hcs0 hs1 z3 z4 hD3 hhis3
  go_enter Try.func41, Try.ntmps41
  go_upto_region 1 with fail
  rw [← hw1]
  clear hw1
  go_upto_region 4 with fail
  go_upto_region 5 with fail
  rw [← hw2, ← hg]
  clear hg hgw hw2 e1 el1 y01 y11 y21 yb1
  go_upto_region 6 with fail
  rw [← hw3]
  clear hw3 e2 el2 f2
  go_wp2
  rw [← hw4]
  obtain ⟨j0, j1, j2⟩ := HK4.out.cells3
  clear hw4 k0 k1' k2' kf0 kf1 kf2 kl l0 l1 l2 ll
  refine bodyPost_ret (v := .tuple #[.agg #[.int .i64 (i : Int), .int .i64 (d : Int), .slice A m c], .bool true]) ?_ rfl ⟨A, c, _, rfl, HZ4.out, HD4.out, HKK4.out, hgg⟩
  simp [results, Try.results41, go_sem, j0, j1, j2]
end Go.Proofs.Ytkpblieanejmeaa
