/-
  segment.Boundaries, its result in new memory; (*incbreak.Document).set.
  incbreak.New.
-/
import Derived.Test.YtkpblieanejmeaaIb1
import Derived.Test.YtkpblieanejmeaaIb2
import Derived.Test.YtkpblieanejmeaaIc0
import Derived.Test.YtkpblieanejmeaaEdm
import Derived.Test.YtkpblieanejmeaaTrl
import Derived.Test.YtkpblieanejmeaaBp1
import Derived.Test.YtkpblieanejmeaaBw5
namespace Go.Proofs.Ytkpblieanejmeaa
open Go.RowKit Go.UtYtkpblieanejmeaa
set_option maxRecDepth 100000 in
set_option maxHeartbeats 2000000 in
theorem bounds_new (x : PA) (p : PR) (y : TA) (t : BT) (At : Option Addr) (ct : Nat) (text : List Int) (w : World) (h : PrAt w w.heap.size x p) (hsp : p.spans.length ≤ 100000) (hY : TabAt w w.heap.size y t) (hsm : t.cls.length ≤ 1000 ∧ t.act.length ≤ 1000) (hT : Row w w.heap.size At (ints text)) (hll : text.length ≤ 10000) :
    Calls Try.prog 64 #[x.val p, y.val t, .slice At text.length ct] w (RetInts w (bndL p t text)) := by
  have CA := Lib.hid (fun (u : World) (hu : Below w.heap.size w u) => actionsS_any x p y t At ct text u (h.below hu).lt hsp (hY.below hu).lt hsm (hT.below hu).lt hll)
  unfold PA.val at CA ⊢
  unfold TA.val at CA ⊢
  unfold RetI at CA
  obtain ⟨w1, hw1, HB1, HK1⟩ := boxV w 25 #[.slice x.n p.names.length x.cn, .slice x.s p.spans.length x.cs]
  obtain ⟨w2, hw2, HB2', HK2'⟩ := boxT w1 31 y t
  have HB2 := Lib.hid (HB1.out.trans (HB2'.out.mono HB1.out.size))
  have HK2 := Lib.hid (HK1.out.after HB2'.out)
  have hs1 : w1.heap.size = w.heap.size + 1 := by rw [hw1]; simp
  obtain ⟨g, hg⟩ : ∃ g, g = w1.heap.size := ⟨_, rfl⟩
  rw [← hg] at HK2'
  have hgw : g = w.heap.size + 1 := by omega
  obtain ⟨q0, q1, ql⟩ := blk2 HK2.out
  obtain ⟨r0, r1, r2, r3, r4, r5, rl⟩ := tab6 HK2'.out
  obtain ⟨n, hn⟩ : ∃ n, text.length = n := ⟨_, rfl⟩
  have hac := acV_len p t text
  rw [hn] at CA hll hac ⊢
  obtain ⟨N, hN⟩ : ∃ n, (acV p t text).length = n := ⟨_, rfl⟩
  rw [hN] at CA hac
  have HNN := Lib.hid hN
  have HE := Lib.hid (bnd_eq p t text)
  clear h hY hT hn hN
  obtain ⟨i0, hi0, hz0, hz1, hz2⟩ := info_parts in_info31
  go_enter Try.func64, Try.ntmps64
  go_upto_region 1 with fail
  rw [← hw1, ← hw2, ← hgw]
  clear hw1 hw2 hs1 hg hgw
  go_wp2_with fail
  refine (CA.out w2 HB2.out).mono ?_
  rintro e w3 ⟨A3, c3, rfl, g1, g2, hr3, hb3⟩
  have HBF := Lib.hid (HB2.out.trans (hb3.mono HB2.out.size))
  have HRL := Lib.hid hr3
  clear hr3 hb3 g1 g2 q0 q1 ql r0 r1 r2 r3 r4 r5 rl
  go_wp2
  go_loopw [7, 15] (fun vo i wr => ∃ (k no c0 : Nat) (A0 : Option Addr), k ≤ N ∧ i = .int .i64 (k : Int) ∧ vo = .slice A0 no c0 ∧ no ≤ k ∧ Hid (wr.ownsRow w3.heap.size 3 1 (.slice A0 no c0) no (ints (endsL ((acV p t text).take k)))) ∧ Hid (Below w3.heap.size w3 wr)) (fun _ i _ => N - (intOf i).toNat)
  case atStart => exact ⟨0, 0, 0, none, by omega, rfl, rfl, by omega, own_nil _, Below.refl _ _⟩
  case round =>
    obtain ⟨k, no, c0, A0, hk, rfl, rfl, hno, HO, HB⟩ := hrel
    have hbr := HB.out.size
    by_cases hkn : k < N
    · obtain ⟨b, o, z, rfl, hb, hx, cc⟩ := (HRL.out.below HB.out).at_int (k := k) (by rw [HNN.out]; exact hkn)
      have hbl : b < wr.heap.size := by omega
      have HSN := Lib.hid (ends_snoc hx.out)
      by_cases hz : z = 1
      · have HO' : Hid (wr.ownsRow w3.heap.size 3 1 (.slice A0 no c0) no (ints (endsL ((acV p t text).take (k + 1))))) := by
          have := HSN.out
          rw [if_pos hz, List.append_nil] at this
          rw [this]
          exact HO.out
        subst hz
        go_wp2
        go_roundw
        case rel => exact ⟨k + 1, no, c0, A0, by omega, by go_num, rfl, by omega, HO', HB⟩
        case measure => simp [intOf]; omega
      · have dz : (z != 1) = true := by simpa using hz
        have HSN' : Hid (endsL ((acV p t text).take (k + 1)) = endsL ((acV p t text).take k) ++ [(k : Int)]) := by
          have := HSN.out
          rw [if_neg hz] at this
          exact this
        go_wp2_with (first
          | (at_builtin
             refine wpList_append_row _ rfl (.tmp 22) (.tmp 24) _ rfl w3.heap.size 3 i0 _ 1 8 Try.underlying26 hi0 hz0 hz1 hz2 rfl (by omega) (.slice A0 no c0) no (ints (endsL ((acV p t text).take k))) rfl (ow_alloc HO.out _) _ _ 1 1 [Value.int .i64 (k : Int)] rfl rfl (row_lit wr _ _) (ints_one1 _) (by simp only [maxLen]; omega) (by omega) (by simp; omega) ?_
             intro q5 w8 o5 g5 t5
             obtain ⟨A8, c8, rfl⟩ := ow_slice (m := no + 1) o5 rfl
             rw [← ints_snoc, ← HSN'.out] at o5
             have HB8 : Hid (Below w3.heap.size w3 w8) := (HB.out.alloc hbr _).grown g5 (by simp; omega) (fun g hg => own_base HO.out g hg)
             have HO8 := Lib.hid o5
             clear o5 g5 t5))
        go_roundw
        case rel => exact ⟨k + 1, no + 1, c8, A8, by omega, by go_num, rfl, by omega, HO8, HB8⟩
        case measure => simp [intOf]; omega
    · rw [List.take_of_length_le (by rw [HNN.out]; omega)] at HO
      have HBW := Lib.hid (HBF.out.trans (HB.out.mono HBF.out.size))
      go_wp2
      go_ret
      obtain ⟨r1, r2, r3⟩ := ow_row HO.out
      have hle := HO.out.1
      rw [ints_len, Nat.mul_one] at hle
      exact ⟨A0, c0, by rw [HE.out, hle]; rfl, by rw [HE.out, hle]; exact r2, r3, by rw [HE.out]; exact r1, (own_new HO.out).mono HBF.out.size, HBW.out⟩
/-- a document whose text and boundaries are still to be set: its two cells hold whatever -/
def DocRaw (w : World) (B D : Nat) (uv : Value) (p : PR) (t : BT) (U : List EdN) : Prop :=
  ∃ (x : PA) (y : TA) (vs : List Value) (A1 : Option Addr) (n1 c1 : Nat) (A2 : Option Addr) (n2 c2 : Nat),
    Blk w D 71 (docC uv x p y t A1 n1 c1 A2 n2 c2) ∧ (B ≤ D ∧ ∀ g, uv.ownBlock = some g → g ≠ D) ∧
    (HisAt w B uv U.length vs ∧ EdsAt (era w (Foot D uv)) w.heap.size vs U) ∧
    PrAt (era w (Foot D uv)) w.heap.size x p ∧ TabAt (era w (Foot D uv)) w.heap.size y t
def DocRawE (E : Nat → Prop) (w : World) (B D : Nat) (uv : Value) (p : PR) (t : BT) (U : List EdN) : Prop :=
  ∃ (x : PA) (y : TA) (vs : List Value) (A1 : Option Addr) (n1 c1 : Nat) (A2 : Option Addr) (n2 c2 : Nat),
    Blk w D 71 (docC uv x p y t A1 n1 c1 A2 n2 c2) ∧ (B ≤ D ∧ ∀ g, uv.ownBlock = some g → g ≠ D) ∧
    (HisAt w B uv U.length vs ∧ EdsAt (era w (FootE E D uv)) w.heap.size vs U) ∧
    PrAt (era w (FootE E D uv)) w.heap.size x p ∧ TabAt (era w (FootE E D uv)) w.heap.size y t
end Go.Proofs.Ytkpblieanejmeaa
namespace Go.UtYtkpblieanejmeaa
open Go.RowKit Go.Proofs.Ytkpblieanejmeaa
theorem DocAtE.raw {E : Nat → Prop} {w : World} {B D : Nat} {uv : Value} {p : PR} {t : BT} {X : List Int} {U : List EdN} (h : DocAtE E w B D uv p t X U) : DocRawE E w B D uv p t U := by
  obtain ⟨x, y, At, cX, Ac, cC, vs, h1, h2, h3, h5, h6, h7, h8⟩ := h
  exact ⟨x, y, vs, At, X.length, cX, Ac, _, cC, h1, h2, h3, h5, h6⟩
end Go.UtYtkpblieanejmeaa
namespace Go.Proofs.Ytkpblieanejmeaa
open Go.RowKit Go.UtYtkpblieanejmeaa
theorem docRawE_false {w : World} {B D : Nat} {uv : Value} {p : PR} {t : BT} {U : List EdN} : DocRawE (fun _ => False) w B D uv p t U ↔ DocRaw w B D uv p t U := by
  unfold DocRawE DocRaw
  rw [footE_false]
end Go.Proofs.Ytkpblieanejmeaa
namespace Go.UtYtkpblieanejmeaa
open Go.RowKit Go.Proofs.Ytkpblieanejmeaa
theorem DocAt.raw {w : World} {B D : Nat} {uv : Value} {p : PR} {t : BT} {X : List Int} {U : List EdN} (h : DocAt w B D uv p t X U) : DocRaw w B D uv p t U := by
  obtain ⟨x, y, At, cX, Ac, cC, vs, h1, h2, h3, h5, h6, h7, h8⟩ := h
  exact ⟨x, y, vs, At, X.length, cX, Ac, _, cC, h1, h2, h3, h5, h6⟩
end Go.UtYtkpblieanejmeaa
namespace Go.Proofs.Ytkpblieanejmeaa
open Go.RowKit Go.UtYtkpblieanejmeaa
/-- the cells of a document that set reads and writes -/
theorem doc_cells {w : World} {D T : Nat} {uv : Value} {x : PA} {p : PR} {y : TA} {t : BT} {A1 : Option Addr} {n1 c1 : Nat} {A2 : Option Addr} {n2 c2 : Nat} (h : Blk w D T (docC uv x p y t A1 n1 c1 A2 n2 c2)) :
    (w.cell? ⟨D, 0, none⟩ = some uv ∧ w.cell? ⟨D, 1, none⟩ = some (.slice x.n p.names.length x.cn) ∧ w.cell? ⟨D, 2, none⟩ = some (.slice x.s p.spans.length x.cs)) ∧
    (w.cell? ⟨D, 3, none⟩ = some (.slice y.c t.cls.length y.cc) ∧ w.cell? ⟨D, 4, none⟩ = some (.slice y.a t.act.length y.ca) ∧ w.cell? ⟨D, 5, none⟩ = some (.slice y.ln t.ln.length y.cln) ∧ w.cell? ⟨D, 6, none⟩ = some (.slice y.lm t.lm.length y.clm) ∧ w.cell? ⟨D, 7, none⟩ = some (.slice y.rn t.rn.length y.crn) ∧ w.cell? ⟨D, 8, none⟩ = some (.slice y.rm t.rm.length y.crm)) ∧
    w.cell? ⟨D, 9, none⟩ = some (.slice A1 n1 c1) ∧ w.cell? ⟨D, 10, none⟩ = some (.slice A2 n2 c2) ∧ w.cell? ⟨D, 11, none⟩ = some (.bool true) ∧ D < w.heap.size :=
  ⟨⟨h.cell 0, h.cell 1, h.cell 2⟩, ⟨h.cell 3, h.cell 4, h.cell 5, h.cell 6, h.cell 7, h.cell 8⟩, h.cell 9, h.cell 10, h.cell 11, h.lt⟩
set_option maxRecDepth 100000 in
set_option maxHeartbeats 2000000 in
theorem set_anyE (E : Nat → Prop) (B D : Nat) (uv : Value) (p : PR) (t : BT) (X : List Int) (U : List EdN) (A : Option Addr) (n c : Nat) (w : World) (h : DocRawE E w B D uv p t U) (hE0 : ∀ b, E b → b < w.heap.size) (hA : Row (era w (FootE E D uv)) w.heap.size A (ints X)) (hn : X.length = n) (hc : n ≤ c) (hcm : c ≤ maxLen) (hsp : p.spans.length ≤ 100000) (hsm : t.cls.length ≤ 1000 ∧ t.act.length ≤ 1000) (hl : n ≤ 10000) :
    Calls Try.prog 40 #[.pointer (some ⟨D, 0, none⟩), .slice A n c] w fun e w' => (∃ v, e = .returned v) ∧ DocAtE E w' B D uv p t X U ∧ Kept B (Foot D uv) w w' := by
  obtain ⟨x, y, vs, A1, n1, c1, A2, n2, c2, hD, ⟨hBD, hne⟩, ⟨hH, hE⟩, hP, hT⟩ := h
  obtain ⟨w1, hw1, hk1, hD1⟩ : ∃ z, z = w.setCell ⟨D, 9, none⟩ (.slice A n c) ∧ Kept B (Foot D uv) w z ∧ Blk z D 71 (docC uv x p y t A n c A2 n2 c2) := by
    refine ⟨_, rfl, doc_set hBD, ?_⟩
    have := hD.set_ 9 (.slice A n c)
    simpa [docC] using this
  have hH1 : HisAt w1 B uv U.length vs := by rw [hw1]; exact hH.set hne
  have hE1 := hE.kept hk1.ext (Grew.refl _ _)
  have hP1 := hP.kept hk1.ext (Grew.refl _ _)
  have hT1 := hT.kept hk1.ext (Grew.refl _ _)
  have hA1 := hA.kept hk1.ext (Grew.refl _ _)
  have CB0 := fun (u : World) (hu : Below w1.heap.size w1 u) => bounds_new x p y t A c X u ((hP1.of_era).below hu).lt hsp ((hT1.of_era).below hu).lt hsm ((hA1.of_era).below hu).lt (by omega)
  unfold PA.val TA.val RetInts at CB0
  rw [hn] at CB0
  have CB := Lib.hid CB0
  have HK1 := Lib.hid hk1
  have HD1 := Lib.hid hD1
  have HH1 := Lib.hid hH1
  have HE1 := Lib.hid hE1
  have HP1 := Lib.hid hP1
  have HT1 := Lib.hid hT1
  have HA1 := Lib.hid hA1
  have HN := Lib.hid hn
  have HC := Lib.hid (And.intro hc hcm)
  have HNE := Lib.hid hne
  have HE0 := Lib.hid hE0
  obtain ⟨d1, d2, d9, d10, d11, dl⟩ := doc_cells hD
  have df9 := hD.free 9
  clear d1 d2 d10 d11 CB0 hk1 hH1 hE1 hP1 hT1 hA1 hn hc hcm hH hE hP hT hA hne hsp hsm hl hE0
  go_enter Try.func40, Try.ntmps40
  go_upto_region 1 with fail
  rw [← hw1]
  clear hw1 d9 df9 hD dl
  refine wp_region_treeL 13 (fun w' => Blk w' D 71 (docC uv x p y t A n c A2 n2 c2)) (.float 0 (.float 1 (.float 2 (.float 3 (.float 4 (.float 5 (.float 6 (.float 7 (.float 8 (.float 9 (.one 10 (.float 11 (.float 12 (.one 13 .done)))))))))))))) (by kernel_rfl) (by kernel_rfl) (fun _ _ d _ _ h => by cases d <;> exact h) HD1.out.drew ?_
  repeat (first
    | (refine wpTrL_fskip (by simp only [List.getElem?_toArray, List.getElem?_cons_zero, List.getElem?_cons_succ]; rfl) (by rfl) ?_
       simp only [Act.put, List.setIfInBounds_toArray, List.set_cons_zero, List.set_cons_succ])
    | (refine wpTrL_float (v := ?_) (by simp only [List.getElem?_toArray, List.getElem?_cons_zero, List.getElem?_cons_succ]; rfl) (by rfl) (fun w' hS => ?_) ?_
       rotate_left
       ((obtain ⟨⟨a0', a1', a2'⟩, ⟨a3', a4', a5', a6', a7', a8'⟩, a9', a10', a11', al'⟩ := doc_cells hS); go_simp; first | done | rfl)
       simp only [Act.put, List.setIfInBounds_toArray, List.set_cons_zero, List.set_cons_succ]))
  refine wpTrL_one ?_
  refine stepTrL_K (by simp only [List.getElem?_toArray, List.getElem?_cons_zero, List.getElem?_cons_succ]; rfl) (by rfl) (fun K hK => ?_)
  go_simp
  refine (CB.out w1.drew (Below.refl _ _).drew).mono ?_
  rintro e w2 ⟨A3, c3, rfl, g1, g2, hr3, hn3, hb3⟩
  have HB2 : Hid (Below w1.heap.size w1 w2) := (Below.refl _ _).drew.trans hb3
  have HD2 := Lib.hid (HD1.out.after HB2.out)
  have HR2 : Hid (Row (era w2 (FootE E D uv)) w2.heap.size A3 (ints (bndL p t X)) ∧ (bndL p t X).length ≤ c3 ∧ c3 ≤ maxLen) := Lib.hid ⟨hr3.era_new hn3 (fun b hb => by
    rcases hb with (hb | hb) | hb
    · rw [hb]
      exact HD1.out.lt
    · exact (HH1.out.lt b hb).2
    · exact Nat.lt_of_lt_of_le (HE0.out b hb) HK1.out.1.size), g1, g2⟩
  refine hK.out _ _ HD2.out ?_
  clear hK K hr3 hb3 hn3 g1 g2
  try simp only [Act.put, List.setIfInBounds_toArray, List.set_cons_zero, List.set_cons_succ]
  repeat (first
    | (refine wpTrL_fskip (by simp only [List.getElem?_toArray, List.getElem?_cons_zero, List.getElem?_cons_succ]; rfl) (by rfl) ?_
       simp only [Act.put, List.setIfInBounds_toArray, List.set_cons_zero, List.set_cons_succ])
    | (refine wpTrL_float (v := ?_) (by simp only [List.getElem?_toArray, List.getElem?_cons_zero, List.getElem?_cons_succ]; rfl) (by rfl) (fun w' hS => ?_) ?_
       rotate_left
       ((skip); go_simp; first | done | rfl)
       simp only [Act.put, List.setIfInBounds_toArray, List.set_cons_zero, List.set_cons_succ]))
  refine wpTrL_one ?_
  refine stepTrL_last (by simp only [List.getElem?_toArray, List.getElem?_cons_zero, List.getElem?_cons_succ]; rfl) (by rfl) (fun K hK => ?_)
  obtain ⟨d1, d2, d9, d10, d11, dl⟩ := doc_cells HD2.out
  have df10 := HD2.out.free 10
  clear d1 d2 d9 d11
  obtain ⟨N, hN⟩ : ∃ N, (bndL p t X).length = N := ⟨_, rfl⟩
  obtain ⟨w3, hw3, HK3, HR3⟩ : ∃ z, z = w2.setCell ⟨D, 10, none⟩ (.slice A3 N c3) ∧ Hid (Kept B (Foot D uv) w z) ∧ Hid (DocAtE E z B D uv p t X U) := by
    have hk2 : Kept B (Foot D uv) w1 w2 := Kept.below (by have := HD1.out.lt; omega) HB2.out
    have hk3 : Kept B (Foot D uv) w2 (w2.setCell ⟨D, 10, none⟩ (.slice A3 N c3)) := doc_set hBD
    have hk : Kept B (Foot D uv) w1 (w2.setCell ⟨D, 10, none⟩ (.slice A3 N c3)) := hk2.trans (Grew.refl _ _) hk3
    refine ⟨_, rfl, Lib.hid (HK1.out.trans (Grew.refl _ _) hk), Lib.hid ⟨x, y, A, c, A3, c3, vs, ?_, ⟨hBD, HNE.out⟩, ⟨?_, ?_⟩, HP1.out.kept hk.ext (Grew.refl _ _), HT1.out.kept hk.ext (Grew.refl _ _), ⟨HA1.out.kept hk.ext (Grew.refl _ _), ?_, ?_⟩, HR2.out.1.kept hk3.ext (Grew.refl _ _), HR2.out.2⟩⟩
    · have := HD2.out.set_ 10 (.slice A3 N c3)
      rw [hN, HN.out]
      simpa [docC] using this
    · exact (HH1.out.below HB2.out).set HNE.out
    · exact HE1.out.kept hk.ext (Grew.refl _ _)
    · rw [HN.out]; exact HC.out.1
    · exact HC.out.2
  rw [hN]
  go_simp
  rw [← hw3]
  refine hK.out _ _ ?_
  clear hK K hw3 d10 dl df10 hN
  try simp only [Act.put, List.setIfInBounds_toArray, List.set_cons_zero, List.set_cons_succ]
  refine wpTrL_done ?_
  go_wp2
  go_end0
  exact ⟨⟨_, rfl⟩, HR3.out, HK3.out⟩
theorem set_any (B D : Nat) (uv : Value) (p : PR) (t : BT) (X : List Int) (U : List EdN) (A : Option Addr) (n c : Nat) (w : World) (h : DocRaw w B D uv p t U) (hA : Row (era w (Foot D uv)) w.heap.size A (ints X)) (hn : X.length = n) (hc : n ≤ c) (hcm : c ≤ maxLen) (hsp : p.spans.length ≤ 100000) (hsm : t.cls.length ≤ 1000 ∧ t.act.length ≤ 1000) (hl : n ≤ 10000) :
    Calls Try.prog 40 #[.pointer (some ⟨D, 0, none⟩), .slice A n c] w fun e w' => (∃ v, e = .returned v) ∧ DocAt w' B D uv p t X U ∧ Kept B (Foot D uv) w w' := by
  have := set_anyE (fun _ => False) B D uv p t X U A n c w (docRawE_false.2 h) (fun b hb => hb.elim) (by rw [footE_false]; exact hA) hn hc hcm hsp hsm hl
  refine this.mono ?_
  rintro e w' ⟨h1, h2, h3⟩
  exact ⟨h1, docAtE_false.1 h2, h3⟩
end Go.Proofs.Ytkpblieanejmeaa
namespace Go.Proofs.Ytkpblieanejmeaa
open Go.RowKit Go.UtYtkpblieanejmeaa
theorem spn1 (l : List (Int × Int × Int)) : ∀ u ∈ spn l, u.oneCell' = true := by
  intro u hu
  unfold spn at hu
  obtain ⟨s, _, h⟩ := List.mem_flatMap.1 hu
  simp at h
  rcases h with rfl | rfl | rfl <;> rfl
theorem DocRaw.after {w w' : World} {B D : Nat} {uv : Value} {p : PR} {t : BT} {U : List EdN} (h : DocRaw w B D uv p t U) (hb : Below w.heap.size w w') : DocRaw w' B D uv p t U := by
  obtain ⟨x, y, vs, A1, n1, c1, A2, n2, c2, h1, h2, ⟨h3, h4⟩, h5, h6⟩ := h
  have hk : Kept w.heap.size (Foot D uv) w w' := Kept.below (Nat.le_refl _) hb
  exact ⟨x, y, vs, A1, n1, c1, A2, n2, c2, h1.after hb, h2, ⟨h3.below hb, h4.kept hk (Grew.refl _ _)⟩, h5.kept hk (Grew.refl _ _), h6.kept hk (Grew.refl _ _)⟩
/-- what New returns -/
def RetNew (w : World) (p : PR) (t : BT) (X : List Int) (e : Ending) (w' : World) : Prop :=
  ((¬ (validP p ∧ validT t) ∧ e = .returned (.tuple #[.pointer none, .int .i64 11])) ∨ ((validP p ∧ validT t) ∧ ∃ D, e = .returned (.tuple #[.pointer (some ⟨D, 0, none⟩), .int .i64 0]) ∧ DocAt w' w.heap.size D (.slice none 0 0) p t X [])) ∧ Below w.heap.size w w'
/-- a document just made -/
theorem raw_new {w : World} {B : Nat} {x : PA} {y : TA} {p : PR} {t : BT} (hB : B ≤ w.heap.size) (hP : PrAt w w.heap.size x p) (hT : TabAt w w.heap.size y t) : ∃ z, z = w.alloc (.cells (docC (.slice none 0 0) x p y t none 0 0 none 0 0) 71) ∧ Hid (Below w.heap.size w z) ∧ Hid (DocRaw z B w.heap.size (.slice none 0 0) p t []) := by
  have hb : Below w.heap.size w (w.alloc (.cells (docC (.slice none 0 0) x p y t none 0 0 none 0 0) 71)) := (Below.refl _ _).alloc (Nat.le_refl _) _
  have hf : ∀ b, Foot w.heap.size (.slice none 0 0) b → w.heap.size ≤ b := fun b hb => by
    rcases hb with h | h
    · omega
    · simp [Value.ownBlock] at h
  refine ⟨_, rfl, Lib.hid hb, Lib.hid ⟨x, y, [], none, 0, 0, none, 0, 0, Blk.new _ _ _, ⟨hB, fun g hg => by simp [Value.ownBlock] at hg⟩, ⟨HisAt.nil, EdsAt.nil⟩, ((hP.below hb).era_below hf).more hb.size, ((hT.below hb).era_below hf).more hb.size⟩⟩
set_option maxRecDepth 100000 in
set_option maxHeartbeats 4000000 in
theorem new_any (x : PA) (p : PR) (y : TA) (t : BT) (At : Option Addr) (ct n : Nat) (X : List Int) (w : World) (hP : PrAt w w.heap.size x p) (hY : TabAt w w.heap.size y t) (hT : Row w w.heap.size At (ints X)) (hn : X.length = n)
    (hps : p.names.length ≤ 1000 ∧ p.spans.length ≤ 1000) (hsm : smT t) (hl : n ≤ 10000) :
    Calls Try.prog 11 #[x.val p, y.val t, .slice At n ct] w (RetNew w p t X) := by
  have hct : t.cls.length ≤ 1000 ∧ t.act.length ≤ 1000 := ⟨by have := hsm.1.1; omega, by have := hsm.1.2; omega⟩
  have CP := Lib.hid (fun (u : World) (hu : Below w.heap.size w u) (v : Bool) (hv : v = true ↔ validP p) => validP_any x p u (hP.below hu).lt (by omega) v hv)
  have CV := Lib.hid (fun (u : World) (hu : Below w.heap.size w u) (v : Bool) (hv : v = true ↔ validT t) => valid_any y t u (hY.below hu).lt hct v hv)
  have C2 := fun (u : World) (hu : Below w.heap.size w u) => clone_str x.n p.names.length x.cn (strs p.names) u (hP.1.1.1.below hu).lt (by rw [strs_len]; omega) (strs_one _) (by omega)
  have C5 := fun (u : World) (hu : Below w.heap.size w u) => clone_spn x.s p.spans.length x.cs (spn p.spans) u (hP.2.1.below hu).lt (spn_len _) (spn1 _) (by omega)
  have C9 := fun (u : World) (hu : Below w.heap.size w u) => clone_str y.c t.cls.length y.cc (strs t.cls) u (hY.1.1.1.below hu).lt (by rw [strs_len]; omega) (strs_one _) (by omega)
  have C12 := fun (u : World) (hu : Below w.heap.size w u) => clone_int y.a t.act.length y.ca (ints t.act) u (hY.2.1.1.below hu).lt (by rw [ints_len]; omega) (ints_one _) (by omega)
  have C15 := fun (u : World) (hu : Below w.heap.size w u) => copied_any y.ln y.lm t.ln.length y.cln t.lm.length y.clm t.ln t.lm u (hY.2.2.1.below hu).lt rfl rfl (by have := hsm.2.1.1.1; omega) (by have := hsm.2.1.1.2; omega) (fun r hr => by have := hsm.2.1.2.1 r hr; omega) (fun r hr => by have := hsm.2.1.2.2 r hr; omega)
  have C18 := fun (u : World) (hu : Below w.heap.size w u) => copied_any y.rn y.rm t.rn.length y.crn t.rm.length y.crm t.rn t.rm u (hY.2.2.2.below hu).lt rfl rfl (by have := hsm.2.2.1.1; omega) (by have := hsm.2.2.1.2; omega) (fun r hr => by have := hsm.2.2.2.1 r hr; omega) (fun r hr => by have := hsm.2.2.2.2 r hr; omega)
  have CT := fun (u : World) (hu : Below w.heap.size w u) => clone_int At n ct (ints X) u (hT.below hu).lt (by rw [ints_len]; omega) (ints_one _) (by omega)
  unfold RetCl at C2 C5 C9 C12 CT
  unfold RetAu at C15 C18
  replace C2 := Lib.hid C2
  replace C5 := Lib.hid C5
  replace C9 := Lib.hid C9
  replace C12 := Lib.hid C12
  replace C15 := Lib.hid C15
  replace C18 := Lib.hid C18
  replace CT := Lib.hid CT
  have HSL := Lib.hid (And.intro hP.1.1.2 hY.1.1.2)
  have HCT := Lib.hid hct
  have HPS := Lib.hid hps
  have HN := Lib.hid hn
  unfold PA.val TA.val at *
  obtain ⟨w1, hw1, HB1, HK1⟩ := boxV w 25 #[.slice x.n p.names.length x.cn, .slice x.s p.spans.length x.cs]
  obtain ⟨w2, hw2, HB2', HK2'⟩ := boxT w1 31 y t
  have HB2 := Lib.hid (HB1.out.trans (HB2'.out.mono HB1.out.size))
  have HK2 := Lib.hid (HK1.out.after HB2'.out)
  have hs1 : w1.heap.size = w.heap.size + 1 := by rw [hw1]; simp
  obtain ⟨g, hg⟩ : ∃ g, g = w1.heap.size := ⟨_, rfl⟩
  rw [← hg] at HK2'
  have hgw : g = w.heap.size + 1 := by omega
  obtain ⟨q0, q1, ql⟩ := blk2 HK2.out
  obtain ⟨r0, r1, r2, r3, r4, r5, rl⟩ := tab6 HK2'.out
  clear hP hY hT hn hct hps hsm
  by_cases hvp : validP p
  case neg =>
    have HV := Lib.hid hvp
    have CP1 := CP.out w2 HB2.out false ⟨fun h => (by cases h), fun h => absurd h hvp⟩
    replace CP1 := Lib.hid CP1
    clear C2 C5 C9 C12 C15 C18 CT CV CP hvp
    go_enter Try.func11, Try.ntmps11
    go_upto_region 1 with fail
    rw [← hw1, ← hw2, ← hgw]
    clear hw1 hw2 hs1 hg hgw
    go_wp2_with fail
    refine CP1.out.mono ?_
    rintro e w3 ⟨rfl, hb3⟩
    have HB3 := Lib.hid (HB2.out.trans (hb3.mono HB2.out.size))
    clear hb3 q0 q1 ql r0 r1 r2 r3 r4 r5 rl
    go_wp2
    go_ret2
    exact ⟨.inl ⟨fun h => HV.out h.1, rfl⟩, HB3.out⟩
  case pos =>
    have HVP := Lib.hid hvp
    have CP1 := CP.out w2 HB2.out true ⟨fun _ => hvp, fun _ => rfl⟩
    replace CP1 := Lib.hid CP1
    clear CP hvp
    by_cases hvt : validT t
    case neg =>
      have HV := Lib.hid hvt
      clear C2 C5 C9 C12 C15 C18 CT
      go_enter Try.func11, Try.ntmps11
      go_upto_region 1 with fail
      rw [← hw1, ← hw2, ← hgw]
      clear hw1 hw2 hs1 hg hgw
      go_wp2_with fail
      refine CP1.out.mono ?_
      rintro e w3 ⟨rfl, hb3⟩
      have HB3 := Lib.hid (HB2.out.trans (hb3.mono HB2.out.size))
      have HK3' := Lib.hid (HK2'.out.after hb3)
      have CV1 := Lib.hid (CV.out w3 HB3.out false ⟨fun h => (by cases h), fun h => absurd h HV.out⟩)
      clear hb3 q0 q1 ql r0 r1 r2 r3 r4 r5 rl CV hvt
      obtain ⟨r0, r1, r2, r3, r4, r5, rl⟩ := tab6 HK3'.out
      go_wp2_with fail
      refine CV1.out.mono ?_
      rintro e w4 ⟨rfl, hb4⟩
      have HB4 := Lib.hid (HB3.out.trans (hb4.mono HB3.out.size))
      clear hb4 r0 r1 r2 r3 r4 r5 rl
      go_wp2
      go_ret2
      exact ⟨.inl ⟨fun h => HV.out h.2, rfl⟩, HB4.out⟩
    case pos =>
      have HVT := Lib.hid hvt
      clear hvt
      go_enter Try.func11, Try.ntmps11
      go_upto_region 1 with fail
      rw [← hw1, ← hw2, ← hgw]
      clear hw1 hw2 hs1 hg
      have HGW := Lib.hid hgw
      clear hgw
      go_wp2_with fail
      refine CP1.out.mono ?_
      rintro e w3 ⟨rfl, hb3⟩
      have HB3 := Lib.hid (HB2.out.trans (hb3.mono HB2.out.size))
      have HK3 := Lib.hid (HK2.out.after hb3)
      have HK3' := Lib.hid (HK2'.out.after hb3)
      have CV1 := Lib.hid (CV.out w3 HB3.out true ⟨fun _ => HVT.out, fun _ => rfl⟩)
      clear hb3 q0 q1 ql r0 r1 r2 r3 r4 r5 rl CV
      obtain ⟨r0, r1, r2, r3, r4, r5, rl⟩ := tab6 HK3'.out
      go_wp2_with fail
      refine CV1.out.mono ?_
      rintro e w4 ⟨rfl, hb4⟩
      have HB4 := Lib.hid (HB3.out.trans (hb4.mono HB3.out.size))
      have HK4 := Lib.hid (HK3.out.after hb4)
      have HK4' := Lib.hid (HK3'.out.after hb4)
      clear hb4 r0 r1 r2 r3 r4 r5 rl
      go_upto_region 5 with fail
      refine wp_region_tree (fun w' => Blk w' w.heap.size 25 #[.slice x.n p.names.length x.cn, .slice x.s p.spans.length x.cs] ∧ Blk w' g 31 (y.cs t)) (.float 0 (.float 1 (.float 3 (.float 4 (.float 7 (.float 8 (.float 10 (.float 11 (.float 13 (.float 14 (.float 16 (.float 17 (.one 2 (.one 5 (.float 6 (.one 9 (.one 12 (.one 15 (.one 18 (.float 19 (.float 20 (.one 21 (.float 22 .done))))))))))))))))))))))) (by kernel_rfl) (by kernel_rfl) (fun _ _ d _ _ h => by cases d <;> exact h) ⟨HK4.out.drew, HK4'.out.drew⟩ ?_
      repeat (first
        | (refine wpTr_fskip (by simp only [List.getElem?_toArray, List.getElem?_cons_zero, List.getElem?_cons_succ]; rfl) (by rfl) ?_
           simp only [Act.put, List.setIfInBounds_toArray, List.set_cons_zero, List.set_cons_succ])
        | (refine wpTr_float (v := ?_) (by simp only [List.getElem?_toArray, List.getElem?_cons_zero, List.getElem?_cons_succ]; rfl) (by rfl) (fun w' hS => ?_) ?_
           rotate_left
           ((obtain ⟨hSK, hST⟩ := hS; obtain ⟨a0', a1', al'⟩ := blk2 hSK; obtain ⟨e0', e1', e2', e3', e4', e5', el'⟩ := tab6 hST); go_simp; first | done | rfl)
           simp only [Act.put, List.setIfInBounds_toArray, List.set_cons_zero, List.set_cons_succ]))
      refine wpTr_one ?_
      refine stepTr_K (by simp only [List.getElem?_toArray, List.getElem?_cons_zero, List.getElem?_cons_succ]; rfl) (by rfl) (fun K hK => ?_)
      go_simp
      refine (C2.out w4.drew (HB4.out.drew)).mono ?_
      rintro e w5 ⟨AN, cN, rfl, ho, hb5⟩
      have hbl : Below w4.heap.size w4 w5 := (Below.refl _ _).drew.trans hb5
      clear hb5
      have hb5 := hbl
      clear hbl
      have HB5 := Lib.hid (HB4.out.trans (hb5.mono HB4.out.size))
      have HK5 := Lib.hid (HK4.out.after hb5)
      have HK5' := Lib.hid (HK4'.out.after hb5)
      have HRN := Lib.hid (ow_row ho)
      refine hK.out _ _ ⟨HK5.out, HK5'.out⟩ ?_
      clear hK K ho hb5
      try simp only [Act.put, List.setIfInBounds_toArray, List.set_cons_zero, List.set_cons_succ]
      refine wpTr_one ?_
      refine stepTr_K (by simp only [List.getElem?_toArray, List.getElem?_cons_zero, List.getElem?_cons_succ]; rfl) (by rfl) (fun K hK => ?_)
      go_simp
      refine (C5.out w5 (HB5.out)).mono ?_
      rintro e w6 ⟨AS, cS, rfl, ho, hb6⟩
      have HB6 := Lib.hid (HB5.out.trans (hb6.mono HB5.out.size))
      have HK6 := Lib.hid (HK5.out.after hb6)
      have HK6' := Lib.hid (HK5'.out.after hb6)
      replace HRN := Lib.hid (And.intro (HRN.out.1.below hb6).lt HRN.out.2)
      have HRS := Lib.hid (ow_row ho)
      refine hK.out _ _ ⟨HK6.out, HK6'.out⟩ ?_
      clear hK K ho hb6
      try simp only [Act.put, List.setIfInBounds_toArray, List.set_cons_zero, List.set_cons_succ]
      repeat (first
        | (refine wpTr_fskip (by simp only [List.getElem?_toArray, List.getElem?_cons_zero, List.getElem?_cons_succ]; rfl) (by rfl) ?_
           simp only [Act.put, List.setIfInBounds_toArray, List.set_cons_zero, List.set_cons_succ])
        | (refine wpTr_float (v := ?_) (by simp only [List.getElem?_toArray, List.getElem?_cons_zero, List.getElem?_cons_succ]; rfl) (by rfl) (fun w' hS => ?_) ?_
           rotate_left
           ((skip); go_simp; first | done | rfl)
           simp only [Act.put, List.setIfInBounds_toArray, List.set_cons_zero, List.set_cons_succ]))
      refine wpTr_one ?_
      refine stepTr_K (by simp only [List.getElem?_toArray, List.getElem?_cons_zero, List.getElem?_cons_succ]; rfl) (by rfl) (fun K hK => ?_)
      go_simp
      refine (C9.out w6 (HB6.out)).mono ?_
      rintro e w7 ⟨AC, cC, rfl, ho, hb7⟩
      have HB7 := Lib.hid (HB6.out.trans (hb7.mono HB6.out.size))
      have HK7 := Lib.hid (HK6.out.after hb7)
      have HK7' := Lib.hid (HK6'.out.after hb7)
      replace HRN := Lib.hid (And.intro (HRN.out.1.below hb7).lt HRN.out.2)
      replace HRS := Lib.hid (And.intro (HRS.out.1.below hb7).lt HRS.out.2)
      have HRC := Lib.hid (ow_row ho)
      refine hK.out _ _ ⟨HK7.out, HK7'.out⟩ ?_
      clear hK K ho hb7
      try simp only [Act.put, List.setIfInBounds_toArray, List.set_cons_zero, List.set_cons_succ]
      refine wpTr_one ?_
      refine stepTr_K (by simp only [List.getElem?_toArray, List.getElem?_cons_zero, List.getElem?_cons_succ]; rfl) (by rfl) (fun K hK => ?_)
      go_simp
      refine (C12.out w7 (HB7.out)).mono ?_
      rintro e w8 ⟨AA, cA, rfl, ho, hb8⟩
      have HB8 := Lib.hid (HB7.out.trans (hb8.mono HB7.out.size))
      have HK8 := Lib.hid (HK7.out.after hb8)
      have HK8' := Lib.hid (HK7'.out.after hb8)
      replace HRN := Lib.hid (And.intro (HRN.out.1.below hb8).lt HRN.out.2)
      replace HRS := Lib.hid (And.intro (HRS.out.1.below hb8).lt HRS.out.2)
      replace HRC := Lib.hid (And.intro (HRC.out.1.below hb8).lt HRC.out.2)
      have HRA := Lib.hid (ow_row ho)
      refine hK.out _ _ ⟨HK8.out, HK8'.out⟩ ?_
      clear hK K ho hb8
      try simp only [Act.put, List.setIfInBounds_toArray, List.set_cons_zero, List.set_cons_succ]
      refine wpTr_one ?_
      refine stepTr_K (by simp only [List.getElem?_toArray, List.getElem?_cons_zero, List.getElem?_cons_succ]; rfl) (by rfl) (fun K hK => ?_)
      go_simp
      refine (C15.out w8 (HB8.out)).mono ?_
      rintro e w9 ⟨AL, cL, AL', cL', rfl, ha, hb9⟩
      have HB9 := Lib.hid (HB8.out.trans (hb9.mono HB8.out.size))
      have HK9 := Lib.hid (HK8.out.after hb9)
      have HK9' := Lib.hid (HK8'.out.after hb9)
      replace HRN := Lib.hid (And.intro (HRN.out.1.below hb9).lt HRN.out.2)
      replace HRS := Lib.hid (And.intro (HRS.out.1.below hb9).lt HRS.out.2)
      replace HRC := Lib.hid (And.intro (HRC.out.1.below hb9).lt HRC.out.2)
      replace HRA := Lib.hid (And.intro (HRA.out.1.below hb9).lt HRA.out.2)
      have HRL := Lib.hid (ha)
      refine hK.out _ _ ⟨HK9.out, HK9'.out⟩ ?_
      clear hK K ha hb9
      try simp only [Act.put, List.setIfInBounds_toArray, List.set_cons_zero, List.set_cons_succ]
      refine wpTr_one ?_
      refine stepTr_K (by simp only [List.getElem?_toArray, List.getElem?_cons_zero, List.getElem?_cons_succ]; rfl) (by rfl) (fun K hK => ?_)
      go_simp
      refine (C18.out w9 (HB9.out)).mono ?_
      rintro e w10 ⟨AM, cM, AM', cM', rfl, ha, hb10⟩
      have HB10 := Lib.hid (HB9.out.trans (hb10.mono HB9.out.size))
      have HK10 := Lib.hid (HK9.out.after hb10)
      have HK10' := Lib.hid (HK9'.out.after hb10)
      replace HRN := Lib.hid (And.intro (HRN.out.1.below hb10).lt HRN.out.2)
      replace HRS := Lib.hid (And.intro (HRS.out.1.below hb10).lt HRS.out.2)
      replace HRC := Lib.hid (And.intro (HRC.out.1.below hb10).lt HRC.out.2)
      replace HRA := Lib.hid (And.intro (HRA.out.1.below hb10).lt HRA.out.2)
      replace HRL := Lib.hid ((HRL.out.below hb10).lt)
      have HRM := Lib.hid (ha)
      refine hK.out _ _ ⟨HK10.out, HK10'.out⟩ ?_
      clear hK K ha hb10
      try simp only [Act.put, List.setIfInBounds_toArray, List.set_cons_zero, List.set_cons_succ]
      repeat (first
        | (refine wpTr_fskip (by simp only [List.getElem?_toArray, List.getElem?_cons_zero, List.getElem?_cons_succ]; rfl) (by rfl) ?_
           simp only [Act.put, List.setIfInBounds_toArray, List.set_cons_zero, List.set_cons_succ])
        | (refine wpTr_float (v := ?_) (by simp only [List.getElem?_toArray, List.getElem?_cons_zero, List.getElem?_cons_succ]; rfl) (by rfl) (fun w' hS => ?_) ?_
           rotate_left
           ((skip); go_simp; first | done | rfl)
           simp only [Act.put, List.setIfInBounds_toArray, List.set_cons_zero, List.set_cons_succ]))
      refine wpTr_one ?_
      refine stepTr_K (by simp only [List.getElem?_toArray, List.getElem?_cons_zero, List.getElem?_cons_succ]; rfl) (by rfl) (fun K hK => ?_)
      go_simp
      obtain ⟨x', hx'⟩ : ∃ x' : PA, x' = ⟨AN, AS, cN, cS⟩ := ⟨_, rfl⟩
      obtain ⟨y', hy'⟩ : ∃ y' : TA, y' = ⟨AC, AA, AL, AL', AM, AM', cC, cA, cL, cL', cM, cM'⟩ := ⟨_, rfl⟩
      have HPx : Hid (PrAt w10 w10.heap.size x' p) := Lib.hid (by
        rw [hx']
        exact ⟨⟨⟨HRN.out.1, HSL.out.1⟩, HRN.out.2⟩, HRS.out.1, HRS.out.2⟩)
      have HTy : Hid (TabAt w10 w10.heap.size y' t) := Lib.hid (by
        rw [hy']
        exact ⟨⟨⟨HRC.out.1, HSL.out.2⟩, HRC.out.2⟩, ⟨HRA.out.1, HRA.out.2⟩, HRL.out, HRM.out⟩)
      obtain ⟨w11, hw11, HB11', HD11⟩ := raw_new HB10.out.size HPx.out HTy.out
      rw [hx', hy'] at hw11
      unfold docC at hw11
      simp only at hw11
      rw [← hw11]
      have HB11 := Lib.hid (HB10.out.trans (HB11'.out.mono HB10.out.size))
      refine hK.out _ _ ⟨HK10.out.after HB11'.out, HK10'.out.after HB11'.out⟩ ?_
      clear hK K hw11 hx' hy'
      try simp only [Act.put, List.setIfInBounds_toArray, List.set_cons_zero, List.set_cons_succ]
      repeat (first
        | (refine wpTr_fskip (by simp only [List.getElem?_toArray, List.getElem?_cons_zero, List.getElem?_cons_succ]; rfl) (by rfl) ?_
           simp only [Act.put, List.setIfInBounds_toArray, List.set_cons_zero, List.set_cons_succ])
        | (refine wpTr_float (v := ?_) (by simp only [List.getElem?_toArray, List.getElem?_cons_zero, List.getElem?_cons_succ]; rfl) (by rfl) (fun w' hS => ?_) ?_
           rotate_left
           ((skip); go_simp; first | done | rfl)
           simp only [Act.put, List.setIfInBounds_toArray, List.set_cons_zero, List.set_cons_succ]))
      refine wpTr_done ?_
      obtain ⟨D, hD⟩ : ∃ D, D = w10.heap.size := ⟨_, rfl⟩
      rw [← hD] at HD11 ⊢
      have HDD := Lib.hid hD
      clear hD
      go_wp2_with (first
        | (go_at_call 38
           refine (CT.out w11 HB11.out).mono ?_
           rintro e w12 ⟨A12, c12, rfl, ho12, hb12⟩
           have HB12 := Lib.hid (HB11.out.trans (hb12.mono HB11.out.size))
           have HD12 := Lib.hid (HD11.out.after hb12)
           obtain ⟨q1, q2, q3⟩ := ow_row ho12
           have HR12 : Hid (Row (era w12 (Foot D (.slice none 0 0))) w12.heap.size A12 (ints X)) := Lib.hid (q1.era_new (own_new ho12) (fun b hb => by
             rcases hb with hb | hb
             · rw [hb, HDD.out]
               exact Nat.lt_of_lt_of_le (by
                 have := HD11.out
                 obtain ⟨_, _, _, _, _, _, _, _, _, h1, _⟩ := this
                 have := h1.lt
                 rw [HDD.out] at this
                 exact this) (Nat.le_refl _)
             · simp [Value.ownBlock] at hb))
           clear ho12 hb12 q1)
        | (go_at_call 40
           refine (set_any w.heap.size D (.slice none 0 0) p t X [] A12 n c12 w12 HD12.out HR12.out HN.out q2 q3 (by have := HPS.out.2; omega) HCT.out hl).mono ?_
           rintro e w13 ⟨⟨v13, rfl⟩, hd13, hk13⟩
           have HD13 := Lib.hid hd13
           have HB13 := Lib.hid (HB12.out.trans hk13.1)
           clear hd13 hk13))
      go_ret2
      exact ⟨.inr ⟨⟨HVP.out, HVT.out⟩, D, rfl, HD13.out⟩, HB13.out⟩
end Go.Proofs.Ytkpblieanejmeaa
