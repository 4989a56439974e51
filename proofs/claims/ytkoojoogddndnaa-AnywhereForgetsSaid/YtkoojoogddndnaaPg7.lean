/-
  ref29.Compile.
-/
import Derived.Test.YtkoojoogddndnaaPg6
import Derived.Test.YtkoojoogddndnaaPg4
import Derived.Test.YtkoojoogddndnaaPf3
namespace Go.UtYtkoojoogddndnaa
open Go.RowKit
/-- outside of E all is as it was -/
def KE (E : Nat → Prop) (w w' : World) : Prop := (∀ b, b < w.heap.size → ¬ E b → w'.heap[b]? = w.heap[b]?) ∧ w.heap.size ≤ w'.heap.size
section
variable {E : Nat → Prop} {w w' w'' : World} {A A' : Option Addr}
theorem KE.after (h : Below w.heap.size w w') : KE E w w' := ⟨fun b hb _ => h.block b hb, h.size⟩
theorem KE.trans (h : KE E w w') (k : KE E w' w'') : KE E w w'' := ⟨fun b hb hE => (k.1 b (Nat.lt_of_lt_of_le hb h.2) hE).trans (h.1 b hb hE), Nat.le_trans h.2 k.2⟩
theorem KE.row {vs : List Value} (k : KE E w w') (h : Row (era w E) w.heap.size A vs) : Row (era w' E) w'.heap.size A vs := (h.era_keep k.1 (fun _ _ h => h)).more k.2
theorem KE.strs {l : List Nm} (k : KE E w w') (h : StrsAt (era w E) w.heap.size A l) : StrsAt (era w' E) w'.heap.size A l := ⟨k.row h.1, h.2⟩
theorem KE.aut {c c' : Nat} {nx mk : List (List Int)} (k : KE E w w') (h : AutAt (era w E) w.heap.size A c A' c' nx mk) : AutAt (era w' E) w'.heap.size A c A' c' nx mk := AutAt.more (AutAt.era_keep h k.1 (fun _ _ h => h)) k.2
theorem AutAt.less {E' : Nat → Prop} {B c c' : Nat} {nx mk : List (List Int)} (h : AutAt (era w E) B A c A' c' nx mk) (he : ∀ b, E' b → E b) : AutAt (era w E') B A c A' c' nx mk := AutAt.era_keep h (fun _ _ _ => rfl) (fun b _ hb => he b hb)
theorem rowP.ps {E U : Nat → Prop} {t : TypeId} {B c n : Nat} {ps : List Pat} {us : List Value} (h : (rowP t B A c n ps us).own U w) (hn : ps.length = n) (hE : ∀ b, E b → U b) (hA : ∀ b, E b → ¬ OwnE A b) : PsAt (era w E) w.heap.size A c ps := by
  obtain ⟨h1, h2⟩ := h
  obtain ⟨r1, r2, r3⟩ := ow_row h1
  refine ⟨⟨by rw [hn]; exact r2, r3⟩, us, ow_era h1 (fun g hg hE' => hA g hE' ?_), PatsAt.keep (fun _ _ h => h.era_keep (fun _ _ _ => rfl) (fun b _ hb => .inl (hE b hb))) _ _ h2⟩
  unfold OwnE
  rw [← own_size (n := n) A c]
  exact hg
end
/-- six cells of a block -/
def set6 (w : World) (g : Nat) (a b c d e f : Value) : World := (((((w.setCell ⟨g, 0, none⟩ a).setCell ⟨g, 1, none⟩ b).setCell ⟨g, 2, none⟩ c).setCell ⟨g, 3, none⟩ d).setCell ⟨g, 4, none⟩ e).setCell ⟨g, 5, none⟩ f
theorem set6_blk {w : World} {g : Nat} {t : TypeId} {a b c d e f a' b' c' d' e' f' : Value} (h : Blk w g t #[a', b', c', d', e', f']) : Blk (set6 w g a b c d e f) g t #[a, b, c, d, e, f] := (((((h.set_ 0 a).set_ 1 b).set_ 2 c).set_ 3 d).set_ 4 e).set_ 5 f
theorem set6_below {w0 w : World} {B g : Nat} {a b c d e f : Value} (h : Below B w0 w) (hg : B ≤ g) : Below B w0 (set6 w g a b c d e f) :=
  (((((h.setCell (p := ⟨g, 0, none⟩) hg a).setCell (p := ⟨g, 1, none⟩) hg b).setCell (p := ⟨g, 2, none⟩) hg c).setCell (p := ⟨g, 3, none⟩) hg d).setCell (p := ⟨g, 4, none⟩) hg e).setCell (p := ⟨g, 5, none⟩) hg f
theorem set6_ke {E : Nat → Prop} {w : World} {g : Nat} {a b c d e f : Value} (hg : E g) : KE E w (set6 w g a b c d e f) := by
  refine ⟨fun k hk hE => ?_, by simp [set6, World.setCell]⟩
  have hne : k ≠ g := fun e => hE (e ▸ hg)
  unfold set6
  exact (Below.heap_setCell _ _ _ k hne).trans ((Below.heap_setCell _ _ _ k hne).trans ((Below.heap_setCell _ _ _ k hne).trans ((Below.heap_setCell _ _ _ k hne).trans ((Below.heap_setCell _ _ _ k hne).trans (Below.heap_setCell _ _ _ k hne)))))
theorem set2_ke {E : Nat → Prop} {w : World} {g i j : Nat} {a b : Value} (hg : E g) : KE E w ((w.setCell ⟨g, i, none⟩ a).setCell ⟨g, j, none⟩ b) := by
  refine ⟨fun k hk hE => ?_, by simp [World.setCell]⟩
  have hne : k ≠ g := fun e => hE (e ▸ hg)
  exact (Below.heap_setCell _ _ _ k hne).trans (Below.heap_setCell _ _ _ k hne)
theorem set1_ke {E : Nat → Prop} {w : World} {g i : Nat} {a : Value} (hg : E g) : KE E w (w.setCell ⟨g, i, none⟩ a) :=
  ⟨fun k _ hE => Below.heap_setCell _ _ _ k (fun e => hE (e ▸ hg)), by simp [World.setCell]⟩
def TA.zero : TA := ⟨none, none, none, none, none, none, 0, 0, 0, 0, 0, 0⟩
def BT.zero : BT := ⟨[], [], [], [], [], []⟩
theorem TabAt.zero {w : World} {B : Nat} : TabAt w B TA.zero BT.zero := by
  refine ⟨⟨⟨Row.nil, by simp [BT.zero]⟩, Nat.zero_le _, Nat.zero_le _⟩, ⟨Row.nil, Nat.zero_le _, Nat.zero_le _⟩, ⟨⟨Rows2.nil, Nat.zero_le _, Nat.zero_le _⟩, Rows2.nil, Nat.zero_le _, Nat.zero_le _⟩, ⟨Rows2.nil, Nat.zero_le _, Nat.zero_le _⟩, Rows2.nil, Nat.zero_le _, Nat.zero_le _⟩
theorem blk6 {w : World} {g t : Nat} {a b c d e f : Value} (h : Blk w g t #[a, b, c, d, e, f]) : w.cell? ⟨g, 0, none⟩ = some a ∧ w.cell? ⟨g, 1, none⟩ = some b ∧ w.cell? ⟨g, 2, none⟩ = some c ∧ w.cell? ⟨g, 3, none⟩ = some d ∧ w.cell? ⟨g, 4, none⟩ = some e ∧ w.cell? ⟨g, 5, none⟩ = some f ∧ g < w.heap.size :=
  ⟨h.cell 0, h.cell 1, h.cell 2, h.cell 3, h.cell 4, h.cell 5, h.lt⟩
theorem free6 {w : World} {g t : Nat} {cs : Array Value} (h : Blk w g t cs) : w.frozen? ⟨g, 0, none⟩ = false ∧ w.frozen? ⟨g, 1, none⟩ = false ∧ w.frozen? ⟨g, 2, none⟩ = false ∧ w.frozen? ⟨g, 3, none⟩ = false ∧ w.frozen? ⟨g, 4, none⟩ = false ∧ w.frozen? ⟨g, 5, none⟩ = false :=
  ⟨h.free 0, h.free 1, h.free 2, h.free 3, h.free 4, h.free 5⟩
end Go.UtYtkoojoogddndnaa
namespace Go.Proofs.Ytkoojoogddndnaa
open Go.RowKit Go.UtYtkoojoogddndnaa
theorem str31_info : (Try.prog.info? 9).map (fun i => (i.zero, i.size, i.bytes)) = some (some (.string ByteArray.empty), 1, 16) := by kernel_rfl
/-- the blocks of the result and of the table -/
def E2t (g gt : Nat) : Nat → Prop := fun b => b = g + 1 ∨ b = gt
theorem thr_nil {E0 : Nat → Prop} {w : World} {t1 t2 t3 : TypeId} {B : Nat} (hE : ∀ b, E0 b → b < w.heap.size) : Thr E0 w (rowI t1 B none 0 0 []) (rowP t2 B none 0 0 [] []) (rowP t3 B none 0 0 [] []) :=
  ⟨rowI.good, rowP.good, rowP.good, own_nil _, ⟨own_nil _, by rw [PatsAt]⟩, ⟨own_nil _, by rw [PatsAt]⟩, fun _ _ => own_none, fun _ _ => own_none, fun _ _ => own_none, Apart.none_r, Apart.none_r, Apart.none_r, hE⟩
/-- the call returns a table, an error, and whether it is known -/
def RetC (w : World) (e : Ending) (w' : World) : Prop := ∃ (x : TA) (t : BT) (er : Int) (kn : Bool), e = .returned (.tuple #[x.val t, .int .i64 er, .bool kn]) ∧ TabAt w' w'.heap.size x t ∧ (t.cls.length ≤ 6 ∧ t.act.length ≤ 6) ∧ Below w.heap.size w w'
set_option maxRecDepth 100000 in
set_option maxHeartbeats 8000000 in
theorem compile29_any (A A' : Option Addr) (c c' : Nat) (l : List Nm) (rs : List RU) (w : World) (hS : StrsAt w w.heap.size A l) (hlc : l.length ≤ c) (hcm : c ≤ maxLen) (hR : RusAt w w.heap.size A' c' rs) (hsm : smRu l rs) :
    Calls Try.prog 33 #[.agg #[.slice A l.length c, .slice A' rs.length c'], .int .i64 1000] w (RetC w) := by
  obtain ⟨i3, hi3, hw0, hw1, hw2⟩ := info_parts in_info31
  obtain ⟨ip, hip, hq0, hq1, hq2⟩ := info_parts pat_info
  obtain ⟨is, his, hs0, hs1, hs2⟩ := info_parts str31_info
  have HS := Lib.hid hS
  have HR := Lib.hid hR
  have HSM := Lib.hid hsm.2
  obtain ⟨hl6, hr6⟩ := hsm.1
  have CK := Lib.hid (fun (u : World) (hu : Below w.heap.size w u) => check28r_any A A' c c' l rs u (hS.below hu).lt hlc (hR.below hu).lt hl6 hr6)
  obtain ⟨nl, hnl⟩ : ∃ z, l.length = z := ⟨_, rfl⟩
  obtain ⟨m, hm⟩ : ∃ z, rs.length = z := ⟨_, rfl⟩
  have HNL := Lib.hid hnl
  have HM := Lib.hid hm
  have hrc := hR.1
  rw [hnl] at hl6 hlc CK ⊢
  rw [hm] at hr6 hrc CK ⊢
  have hrc1 := hrc.1
  have hrc2 := hrc.2
  unfold maxLen at hcm hrc2
  clear hS hR hsm hnl hm hrc
  obtain ⟨u1, hu1, HU1, HKu1⟩ := boxV w 56 #[.slice A nl c, .slice A' m c']
  have hu1s : u1.heap.size = w.heap.size + 1 := by rw [hu1]; simp
  obtain ⟨w1, hw1', HB1, HK1⟩ := boxV u1 28 #[.slice none 0 0, .slice none 0 0, .slice none 0 0, .slice none 0 0, .slice none 0 0, .slice none 0 0]
  rw [hu1s] at HK1
  have hw1s : w1.heap.size = w.heap.size + 2 := by rw [hw1']; simp [hu1s]
  have HBw1 : Hid (Below w.heap.size w w1) := Lib.hid (HU1.out.trans (HB1.out.mono (by omega)))
  have HKP1 : Hid (Blk w1 w.heap.size 56 #[.slice A nl c, .slice A' m c']) := Lib.hid (HKu1.out.after HB1.out)
  go_enter Try.func33, Try.ntmps33
  go_upto_region 1 with fail
  rw [← hu1, ← hw1']
  clear hu1 hw1' HKu1 hu1s
  obtain ⟨p0, p1, pl⟩ := blk2 HKP1.out
  go_wp2_with fail
  refine (CK.out w1 HBw1.out).mono ?_
  rintro e w2 ⟨v, rfl, hb2⟩
  have HB2 := Lib.hid hb2
  have HKP2 := Lib.hid (HKP1.out.after hb2)
  have HKR2 := Lib.hid (HK1.out.after hb2)
  have HBw2 : Hid (Below w.heap.size w w2) := Lib.hid (HBw1.out.trans (hb2.mono (by omega)))
  have hs2' := HB2.out.size
  clear hb2 p0 p1 pl CK
  by_cases hv : v = 0
  · subst hv
    obtain ⟨p0, p1, pl⟩ := blk2 HKP2.out
    obtain ⟨w3, hw3, HB3, HO3⟩ : ∃ z, z = w2.alloc (.cells #[] 9) ∧ Hid (Below w2.heap.size w2 z) ∧ Hid (z.ownsRow w2.heap.size 9 1 (.slice (some ⟨w2.heap.size, 0, none⟩) 0 0) 0 []) :=
      ⟨_, rfl, Lib.hid ((Below.refl _ _).alloc (Nat.le_refl _) _), Lib.hid (own_mt' w2 _ _ _ rfl)⟩
    have HSr3 := Lib.hid ((HS.out.below (HBw2.out.trans (HB3.out.mono (by have := HBw2.out.size; omega)))).1)
    have HKP3 := Lib.hid (HKP2.out.after HB3.out)
    obtain ⟨k0, k1, kl⟩ := blk2 HKP3.out
    go_wp2_with (first
      | (at_builtin
         rw [← hw3]
         refine wpList_append_row w3 rfl (.tmp 26) (.tmp 28) _ rfl w2.heap.size 9 is _ 1 16 Try.underlying22 his hs0 hs1 hs2 rfl (by omega) (.slice (some ⟨w2.heap.size, 0, none⟩) 0 0) 0 [] rfl HO3.out _ _ nl c (strs l) rfl (by rw [strs_len, HNL.out]; omega) HSr3.out (strs_one l) (by simp only [maxLen]; omega) (by omega) HB3.out.size ?_
         intro q4 w4 o4 g4 t4
         rw [Nat.zero_add, List.nil_append] at o4
         obtain ⟨A4, c4, rfl⟩ := ow_slice (m := nl) o4 rfl
         have HB4 : Hid (Below w2.heap.size w2 w4) := Lib.hid (HB3.out.grown g4 HB3.out.size (fun g hg => by simp [Value.ownBlock] at hg; omega))
         have HO4 := Lib.hid o4
         clear o4 g4 t4 hw3))
    have hO4 := own_ltP HO4.out
    obtain ⟨hA4r, hA4c, hA4m⟩ := ow_row HO4.out
    obtain ⟨w5, hw5, HB5, HK5⟩ := boxV w4 28 #[.slice A4 nl c4, .slice none 0 0, .slice none 0 0, .slice none 0 0, .slice none 0 0, .slice none 0 0]
    rw [← hw5]
    obtain ⟨gt, hgt⟩ : ∃ z, z = w4.heap.size := ⟨_, rfl⟩
    have hw5s : w5.heap.size = gt + 1 := by rw [hw5, hgt]; simp
    have hgw : w2.heap.size ≤ gt := by rw [hgt]; exact HB4.out.size
    have hE5 : ∀ b, E2t w.heap.size gt b → b < w5.heap.size := fun b hb => by
      rcases hb with hb | hb <;> omega
    have HSS5 : Hid (StrsAt (era w5 (E2t w.heap.size gt)) w5.heap.size A4 l) := Lib.hid (by
      refine ⟨?_, HS.out.2⟩
      refine ow_era (ow_below HO4.out HB5.out) (fun g hg hE => ?_)
      have := hO4 g (by unfold OwnE; rw [← own_size (n := nl) A4 c4]; exact hg)
      rcases hE with hE | hE <;> omega)
    have HT5 : Hid (Thr (E2t w.heap.size gt) w5 (rowI 3 (gt + 1) none 0 0 []) (rowP 77 (gt + 1) none 0 0 [] []) (rowP 77 (gt + 1) none 0 0 [] [])) := Lib.hid (thr_nil hE5)
    have HBw5 : Hid (Below w2.heap.size w2 w5) := Lib.hid (HB4.out.trans (HB5.out.mono (by omega)))
    rw [← hgt] at HK5 ⊢
    clear hw5 hO4 hA4r hgt p0 p1 pl k0 k1 kl
    go_loopw [10, 11, 12] (fun lv rv iv wr => ∃ (i cC cL cR : Nat) (AC AL AR : Option Addr) (us vs : List Value) (qs : List Pat), i ≤ m ∧ iv = .int .i64 (i : Int) ∧ lv = .slice AL i cL ∧ rv = .slice AR i cR ∧ Hid (Thr (E2t w.heap.size gt) wr (rowI 3 (gt + 1) AC cC i ((rs.map RU.act).take i)) (rowP 77 (gt + 1) AL cL i ((rs.map RU.left).take i) us) (rowP 77 (gt + 1) AR cR i qs vs)) ∧ Hid (Blk wr gt 28 #[.slice A4 nl c4, .slice AC i cC, .slice none 0 0, .slice none 0 0, .slice none 0 0, .slice none 0 0]) ∧ Hid (qs.length = i ∧ ∀ q ∈ qs, nodes q ≤ 12) ∧ Hid (Below gt w5 wr)) (fun _ _ i _ => m - (intOf i).toNat)
    case atStart => exact ⟨0, 0, 0, 0, none, none, none, [], [], [], by omega, rfl, rfl, rfl, HT5, HK5, Lib.hid ⟨rfl, by simp⟩, Below.refl _ _⟩
    case round =>
      obtain ⟨i, cC, cL, cR, AC, AL, AR, us, vs, qs, hi, rfl, rfl, rfl, HT, HK, HQ, HB⟩ := hrel
      have hbr : gt + 1 ≤ wr.heap.size := by have := HB.out.size; omega
      have HBr : Hid (Below w2.heap.size w2 wr) := Lib.hid (HBw5.out.trans (HB.out.mono hgw))
      have HBw : Hid (Below w.heap.size w wr) := Lib.hid (HBw2.out.trans (HBr.out.mono (by omega)))
      have HKP := Lib.hid (HKP2.out.below HBr.out (by omega))
      have HKR := Lib.hid (HKR2.out.below HBr.out (by omega))
      by_cases hin : i < m
      · obtain ⟨b, o, r, A1, c1, A2, c2, A3, c3, A6, c6, hA', hb, hr, q0, ⟨q1, q2, q3, q4, q5, q6⟩, hPL, hPR⟩ := HR.out.at_ (k := i) (by rw [HM.out]; exact hin)
        subst hA'
        obtain ⟨hrl, hrr⟩ := HSM.out r (List.mem_of_getElem? hr.out)
        obtain ⟨la, hla⟩ : ∃ z, r.act = z := ⟨_, rfl⟩
        obtain ⟨lk, hlk⟩ : ∃ z, r.left.kind = z := ⟨_, rfl⟩
        obtain ⟨lc, hlc'⟩ : ∃ z, r.left.cls.length = z := ⟨_, rfl⟩
        obtain ⟨ls, hls⟩ : ∃ z, r.left.subs.length = z := ⟨_, rfl⟩
        obtain ⟨rk, hrk⟩ : ∃ z, r.right.kind = z := ⟨_, rfl⟩
        obtain ⟨rc, hrc'⟩ : ∃ z, r.right.cls.length = z := ⟨_, rfl⟩
        obtain ⟨rz, hrz⟩ : ∃ z, r.right.subs.length = z := ⟨_, rfl⟩
        rw [hla] at q0
        rw [hlk] at q1
        rw [hlc'] at q2
        rw [hls] at q3
        rw [hrk] at q4
        rw [hrc'] at q5
        rw [hrz] at q6
        have HLV := Lib.hid (show r.act = la ∧ r.left.kind = lk ∧ r.left.cls.length = lc ∧ r.left.subs.length = ls ∧ r.right.kind = rk ∧ r.right.cls.length = rc ∧ r.right.subs.length = rz from ⟨hla, hlk, hlc', hls, hrk, hrc', hrz⟩)
        have HPL := Lib.hid hPL
        have HPR := Lib.hid hPR
        have HXA : Hid ((rs.map RU.act).take i ++ [la] = (rs.map RU.act).take (i + 1)) := Lib.hid (by
          obtain ⟨h1, h2⟩ := List.getElem?_eq_some_iff.1 hr.out
          rw [List.take_succ_eq_append_getElem (by simpa using h1), List.getElem_map, h2, hla])
        have HXL : Hid ((rs.map RU.left).take i ++ [r.left] = (rs.map RU.left).take (i + 1)) := Lib.hid (by
          obtain ⟨h1, h2⟩ := List.getElem?_eq_some_iff.1 hr.out
          rw [List.take_succ_eq_append_getElem (by simpa using h1), List.getElem_map, h2])
        replace q0 := (HBw.out.cell (p := ⟨b, o + i * 7, none⟩) hb).trans q0
        have hbg : b < gt := by omega
        have hbw : b < wr.heap.size := by omega
        clear hPL hPR hla hlk hlc' hls hrk hrc' hrz
        obtain ⟨t0, t1, t2, t3, t4, t5, tl⟩ := blk6 HK.out
        obtain ⟨p0, p1, pl⟩ := blk2 HKP.out
        go_wp2
        refine wp_region_treeL 11 (fun w' => Blk w' gt 28 #[.slice A4 nl c4, .slice AC i cC, .slice none 0 0, .slice none 0 0, .slice none 0 0, .slice none 0 0] ∧ Blk w' w.heap.size 56 #[.slice A nl c, .slice (some ⟨b, o, none⟩) m c'] ∧ w'.cell? ⟨b, o + i * 7, none⟩ = some (.int .i64 la)) (.float 0 (.float 1 (.float 2 (.float 3 (.float 4 (.float 5 (.float 6 (.float 7 (.one 8 (.one 9 (.float 10 (.one 11 .done)))))))))))) (by kernel_rfl) (by kernel_rfl) (fun _ _ d _ _ h => by cases d <;> exact h) ⟨HK.out.drew, HKP.out.drew, q0⟩ ?_
        repeat (first
          | (refine wpTrL_fskip (by simp only [List.getElem?_toArray, List.getElem?_cons_zero, List.getElem?_cons_succ]; rfl) (by rfl) ?_
             simp only [Act.put, List.setIfInBounds_toArray, List.set_cons_zero, List.set_cons_succ])
          | (refine wpTrL_float (v := ?_) (by simp only [List.getElem?_toArray, List.getElem?_cons_zero, List.getElem?_cons_succ]; rfl) (by rfl) (fun w' hS => ?_) ?_
             rotate_left
             ((obtain ⟨hSK, hSP, e0'⟩ := hS; have s1' := hSK.cell 1; have sl' := hSK.lt; have z1' := hSP.cell 1; have zl' := hSP.lt); go_simp; first | done | rfl)
             simp only [Act.put, List.setIfInBounds_toArray, List.set_cons_zero, List.set_cons_succ]))
        refine wpTrL_one ?_
        refine stepTrL_K (by simp only [List.getElem?_toArray, List.getElem?_cons_zero, List.getElem?_cons_succ]; rfl) (by rfl) (fun K hK => ?_)
        go_simp
        obtain ⟨wa, hwa, HBa, HLa⟩ : ∃ z, z = (wr.alloc (.cells #[.int .i64 la] 3)).drew ∧ Hid (Below wr.heap.size wr z) ∧ Hid (Row z (wr.heap.size + 1) (some ⟨wr.heap.size, 0, none⟩) [.int .i64 la]) :=
          ⟨_, rfl, Lib.hid ((Below.refl _ _).alloc (Nat.le_refl _) _).drew, Lib.hid (row_lit wr _ _)⟩
        rw [← hwa]
        have HKa := Lib.hid (HK.out.after HBa.out)
        have HKPa := Lib.hid (HKP.out.after HBa.out)
        have q0a := (HBa.out.cell (p := ⟨b, o + i * 7, none⟩) hbw).trans q0
        refine hK.out _ _ ⟨HKa.out, HKPa.out, q0a⟩ ?_
        clear hK K hwa
        try simp only [Act.put, List.setIfInBounds_toArray, List.set_cons_zero, List.set_cons_succ]
        refine wpTrL_one ?_
        refine stepTrL_K (by simp only [List.getElem?_toArray, List.getElem?_cons_zero, List.getElem?_cons_succ]; rfl) (by rfl) (fun K hK => ?_)
        have HTa := Lib.hid (HT.out.after HBa.out)
        have hBa : gt + 1 ≤ wa.heap.size := Nat.le_trans hbr HBa.out.size
        refine wp_append_row wa (.tmp 39) (.tmp 46) _ rfl (gt + 1) 3 i3 _ 1 8 Try.underlying23 hi3 hw0 hw1 hw2 rfl (by omega) (.slice AC i cC) i (ints ((rs.map RU.act).take i)) rfl HTa.out.o1 _ _ 1 1 [.int .i64 la] rfl rfl HLa.out (ints_one1 _) (by simp only [maxLen]; omega) (by omega) hBa ?_
        intro q7 w7 o7 g7 t7
        obtain ⟨A7, c7, rfl⟩ := ow_slice (m := i + 1) o7 rfl
        rw [← ints_snoc] at o7
        obtain ⟨hk7, hg7⟩ := rowI.grow HTa.out.o1 hBa g7 t7
        rw [HXA.out] at o7
        have HT7 := Lib.hid (HTa.out.push1 (r1' := rowI 3 (gt + 1) A7 c7 (i + 1) ((rs.map RU.act).take (i + 1))) rowI.good o7 hk7.2 hk7.1.size hg7)
        have HK7 := Lib.hid (HKa.out.below hk7.1 (Nat.lt_succ_self _))
        have HKP7 := Lib.hid (HKPa.out.below hk7.1 (by omega))
        have q07 := (hk7.1.cell (p := ⟨b, o + i * 7, none⟩) (by show b < _; omega)).trans q0a
        have HB7 : Hid (Below gt w5 w7) := Lib.hid ((HB.out.trans (HBa.out.mono (by omega))).trans (hk7.1.mono (by omega)))
        clear o7 g7 t7 hk7 hg7
        refine hK.out _ _ ⟨HK7.out, HKP7.out, q07⟩ ?_
        clear hK K
        try simp only [Act.put, List.setIfInBounds_toArray, List.set_cons_zero, List.set_cons_succ]
        repeat (first
          | (refine wpTrL_fskip (by simp only [List.getElem?_toArray, List.getElem?_cons_zero, List.getElem?_cons_succ]; rfl) (by rfl) ?_
             simp only [Act.put, List.setIfInBounds_toArray, List.set_cons_zero, List.set_cons_succ])
          | (refine wpTrL_float (v := ?_) (by simp only [List.getElem?_toArray, List.getElem?_cons_zero, List.getElem?_cons_succ]; rfl) (by rfl) (fun w' hS => ?_) ?_
             rotate_left
             ((skip); go_simp; first | done | rfl)
             simp only [Act.put, List.setIfInBounds_toArray, List.set_cons_zero, List.set_cons_succ]))
        refine wpTrL_one ?_
        refine stepTrL_last (by simp only [List.getElem?_toArray, List.getElem?_cons_zero, List.getElem?_cons_succ]; rfl) (by rfl) (fun K hK => ?_)
        obtain ⟨f0, f1, f2, f3, f4, f5⟩ := free6 HK7.out
        obtain ⟨y0, y1, y2, y3, y4, y5, yl⟩ := blk6 HK7.out
        obtain ⟨w8, hw8, HT8, HK8, HB8⟩ : ∃ z, z = w7.setCell ⟨gt, 1, none⟩ (.slice A7 (i + 1) c7) ∧ Hid (Thr (E2t w.heap.size gt) z (rowI 3 (gt + 1) A7 c7 (i + 1) ((rs.map RU.act).take (i + 1))) (rowP 77 (gt + 1) AL cL i ((rs.map RU.left).take i) us) (rowP 77 (gt + 1) AR cR i qs vs)) ∧ Hid (Blk z gt 28 #[.slice A4 nl c4, .slice A7 (i + 1) c7, .slice none 0 0, .slice none 0 0, .slice none 0 0, .slice none 0 0]) ∧ Hid (Below gt w5 z) :=
          ⟨_, rfl, Lib.hid (HT7.out.keep (set1_ke (.inr rfl)).1 (set1_ke (E := E2t w.heap.size gt) (.inr rfl)).2), Lib.hid (HK7.out.set_ 1 _), Lib.hid (HB7.out.setCell (p := ⟨gt, 1, none⟩) (Nat.le_refl _) _)⟩
        go_simp
        rw [← hw8]
        refine hK.out _ _ ?_
        clear hK K hw8 f0 f1 f2 f3 f4 f5 y0 y1 y2 y3 y4 y5 yl t0 t1 t2 t3 t4 t5 tl p0 p1 pl
        try simp only [Act.put, List.setIfInBounds_toArray, List.set_cons_zero, List.set_cons_succ]
        refine wpTrL_done ?_
        have hbr8 : gt + 1 ≤ w8.heap.size := by have := HB8.out.size; omega
        have HBw8 : Hid (Below w.heap.size w w8) := Lib.hid (HBw2.out.trans ((HBw5.out.trans (HB8.out.mono hgw)).mono (by omega)))
        have HBr8 : Hid (Below gt w5 w8) := HB8
        have HKP8 := Lib.hid (HKP2.out.below (HBw5.out.trans (HB8.out.mono hgw)) (by omega))
        have s1 := (HBw8.out.cell (p := ⟨b, o + i * 7 + 1, none⟩) hb).trans q1
        have s2 := (HBw8.out.cell (p := ⟨b, o + i * 7 + 2, none⟩) hb).trans q2
        have s3 := (HBw8.out.cell (p := ⟨b, o + i * 7 + 3, none⟩) hb).trans q3
        have hb8 : b < w8.heap.size := by omega
        obtain ⟨p0, p1, pl⟩ := blk2 HKP8.out
        obtain ⟨w9, hw9, HB9, HK9⟩ := boxV w8 77 #[.int .i64 lk, .slice A1 lc c1, .slice A2 ls c2]
        have HL9 : Hid (Row w9 (w8.heap.size + 1) (some ⟨w8.heap.size, 0, none⟩) [.int .i64 lk, .slice A1 lc c1, .slice A2 ls c2]) := Lib.hid (by
          rw [hw9]
          exact row_lit w8 _ _)
        have HT9 := Lib.hid (HT8.out.after HB9.out).rot
        have HB9g : Hid (Below gt w5 w9) := Lib.hid (HB8.out.trans (HB9.out.mono (by omega)))
        have HBw9 : Hid (Below w.heap.size w w9) := Lib.hid (HBw8.out.trans (HB9.out.mono (by omega)))
        have hB9 : gt + 1 ≤ w9.heap.size := Nat.le_trans hbr8 HB9.out.size
        have HGE : Hid (∀ b', U3 (E2t w.heap.size gt) AL AR A7 b' → w.heap.size ≤ b') := Lib.hid (fun b' h => by
          rcases h with (h | h) | h | h | h
          · omega
          · omega
          · have := (own_ltP HT9.out.o1.1 b' h).2
            omega
          · have := (own_ltP HT9.out.o2.1 b' h).2
            omega
          · have := (own_ltP HT9.out.o3 b' h).2
            omega)
        have HLP : Hid (PatsAt (era w9 (OwnX (U3 (E2t w.heap.size gt) AL AR A7) AL)) w9.heap.size [r.left] [.int .i64 lk, .slice A1 lc c1, .slice A2 ls c2]) := Lib.hid (by
          have h1 := PvAt.pats (HPL.out.below HBw9.out)
          rw [HLV.out.2.1, HLV.out.2.2.1, HLV.out.2.2.2.1] at h1
          exact PatsAt.keep (fun _ _ h => (h.era_below (fun b' hb' => by
            rcases hb' with hb' | hb'
            · exact HGE.out b' hb'
            · exact HGE.out b' (.inr (.inl hb')))).more HBw9.out.size) _ _ h1)
        go_wp2_with (first
          | (at_builtin
             rw [← hw9]
             refine wpList_append_row w9 rfl (.tmp 49) (.tmp 56) _ rfl (gt + 1) 77 ip _ 3 56 Try.underlying75 hip hq0 hq1 hq2 rfl (by omega) (.slice AL i cL) i us rfl HT9.out.o1.1 _ _ 1 1 [.int .i64 lk, .slice A1 lc c1, .slice A2 ls c2] rfl rfl HL9.out (by intro u hu; simp at hu; rcases hu with rfl | rfl | rfl <;> rfl) (by simp only [maxLen]; omega) (by omega) hB9 ?_
             intro qa wa1 oa ga ta
             obtain ⟨Aa, ca, rfl⟩ := ow_slice (m := i + 1) oa rfl
             obtain ⟨ho10, hk10, hg10⟩ := rowP.grow HT9.out.o1 hB9 HLP.out oa ga ta
             rw [HXL.out] at ho10
             have HT10 := Lib.hid (HT9.out.push1 (r1' := rowP 77 (gt + 1) Aa ca (i + 1) ((rs.map RU.left).take (i + 1)) (us ++ [.int .i64 lk, .slice A1 lc c1, .slice A2 ls c2])) rowP.good ho10 hk10.2 hk10.1.size hg10).rot.rot
             have HB10 : Hid (Below gt w5 wa1) := Lib.hid (HB9g.out.trans (hk10.1.mono (by omega)))
             have HBw10 : Hid (Below w.heap.size w wa1) := Lib.hid (HBw9.out.trans (hk10.1.mono (by omega)))
             have HK10 : Hid (Blk wa1 gt 28 #[.slice A4 nl c4, .slice A7 (i + 1) c7, .slice none 0 0, .slice none 0 0, .slice none 0 0, .slice none 0 0]) := Lib.hid ((HK8.out.after HB9.out).below hk10.1 (Nat.lt_succ_self _))
             have HKP10 : Hid (Blk wa1 w.heap.size 56 #[.slice A nl c, .slice (some ⟨b, o, none⟩) m c']) := Lib.hid (HKP2.out.below (HBw5.out.trans (HB10.out.mono hgw)) (by omega))
             have s4 := (HBw10.out.cell (p := ⟨b, o + i * 7 + 4, none⟩) hb).trans q4
             have s5 := (HBw10.out.cell (p := ⟨b, o + i * 7 + 5, none⟩) hb).trans q5
             have s6 := (HBw10.out.cell (p := ⟨b, o + i * 7 + 6, none⟩) hb).trans q6
             have hb10 : b < wa1.heap.size := Nat.lt_of_lt_of_le hb HBw10.out.size
             obtain ⟨v0, v1, vl⟩ := blk2 HKP10.out
             clear hw9 oa ga ta ho10 hk10 hg10))
        have HGE10 : Hid (∀ b', U3 (E2t w.heap.size gt) A7 Aa AR b' → w.heap.size ≤ b') := Lib.hid (fun b' h => by
          rcases h with (h | h) | h | h | h
          · omega
          · omega
          · have := (own_ltP HT10.out.o1 b' h).2
            omega
          · have := (own_ltP HT10.out.o2.1 b' h).2
            omega
          · have := (own_ltP HT10.out.o3.1 b' h).2
            omega)
        have hbr10 : gt + 1 ≤ wa1.heap.size := by have := HB10.out.size; omega
        have CV := reverse29_any r.right (U3 (E2t w.heap.size gt) A7 Aa AR) A3 c3 A6 c6 wa1 HT10.out.lt ⟨HPR.out.1, ((HPR.out.2.1.below HBw10.out).era_below HGE10.out).more HBw10.out.size, ((HPR.out.2.2.below HBw10.out).era_below' HGE10.out).more HBw10.out.size⟩ (by omega)
        rw [HLV.out.2.2.2.2.1, HLV.out.2.2.2.2.2.1, HLV.out.2.2.2.2.2.2] at CV
        replace CV := Lib.hid CV
        refine CV.out.mono ?_
        rintro e w11 ⟨q', A11, c11, rfl, hPV11, hN11, hb11⟩
        have HPT11 := Lib.hid (PvAt.pats hPV11)
        have HN11 := Lib.hid hN11
        obtain ⟨zk, hzk⟩ : ∃ z, q'.kind = z := ⟨_, rfl⟩
        obtain ⟨zn, hzn⟩ : ∃ z, q'.cls.length = z := ⟨_, rfl⟩
        obtain ⟨zs, hzs⟩ : ∃ z, q'.subs.length = z := ⟨_, rfl⟩
        rw [hzk, hzn, hzs] at HPT11 ⊢
        obtain ⟨w12, hw12, HB12, HK12⟩ := boxV w11 77 #[.int .i64 zk, .slice A3 zn c3, .slice A11 zs c11]
        have HL12 : Hid (Row w12 (w11.heap.size + 1) (some ⟨w11.heap.size, 0, none⟩) [.int .i64 zk, .slice A3 zn c3, .slice A11 zs c11]) := Lib.hid (by
          rw [hw12]
          exact row_lit w11 _ _)
        have HBL12 : Hid (Below wa1.heap.size wa1 w12) := Lib.hid (hb11.trans (HB12.out.mono hb11.size))
        have HT12 := Lib.hid (HT10.out.after HBL12.out).rot.rot
        have HRP : Hid (PatsAt (era w12 (OwnX (U3 (E2t w.heap.size gt) AR A7 Aa) AR)) w12.heap.size [q'] [.int .i64 zk, .slice A3 zn c3, .slice A11 zs c11]) := Lib.hid (PatsAt.keep (fun _ _ h => (h.era_keep (fun b' hb' _ => HB12.out.block b' hb') (fun b' _ hb' => by
          unfold OwnX U3 at hb'
          unfold U3
          rcases hb' with (h | h | h | h) | h <;> simp [h])).more HB12.out.size) _ _ HPT11.out)
        have hB12 : gt + 1 ≤ w12.heap.size := Nat.le_trans hbr10 HBL12.out.size
        have HK12' := Lib.hid (HK10.out.after HBL12.out)
        have HB12g : Hid (Below gt w5 w12) := Lib.hid (HB10.out.trans (HBL12.out.mono (by omega)))
        have HQ13 : Hid ((qs ++ [q']).length = i + 1 ∧ ∀ q ∈ qs ++ [q'], nodes q ≤ 12) := Lib.hid ⟨by rw [List.length_append, HQ.out.1]; rfl, fun q hq => by
          rcases List.mem_append.1 hq with hq | hq
          · exact HQ.out.2 q hq
          · simp at hq
            subst hq
            rw [HN11.out]
            exact hrr⟩
        clear hPV11 hb11 hzk hzn hzs hN11 s1 s2 s3 s4 s5 s6 v0 v1 vl p0 p1 pl
        go_wp2_with (first
          | (at_builtin
             rw [← hw12]
             refine wpList_append_row w12 rfl (.tmp 58) (.tmp 66) _ rfl (gt + 1) 77 ip _ 3 56 Try.underlying75 hip hq0 hq1 hq2 rfl (by omega) (.slice AR i cR) i vs rfl HT12.out.o1.1 _ _ 1 1 [.int .i64 zk, .slice A3 zn c3, .slice A11 zs c11] rfl rfl HL12.out (by intro u hu; simp at hu; rcases hu with rfl | rfl | rfl <;> rfl) (by simp only [maxLen]; omega) (by omega) hB12 ?_
             intro qb wb1 ob gb tb
             obtain ⟨Ab, cb, rfl⟩ := ow_slice (m := i + 1) ob rfl
             obtain ⟨ho13, hk13, hg13⟩ := rowP.grow HT12.out.o1 hB12 HRP.out ob gb tb
             have HT13 := Lib.hid (HT12.out.push1 (r1' := rowP 77 (gt + 1) Ab cb (i + 1) (qs ++ [q']) (vs ++ [.int .i64 zk, .slice A3 zn c3, .slice A11 zs c11])) rowP.good ho13 hk13.2 hk13.1.size hg13).rot
             have HB13 : Hid (Below gt w5 wb1) := Lib.hid (HB12g.out.trans (hk13.1.mono (by omega)))
             have HK13 : Hid (Blk wb1 gt 28 #[.slice A4 nl c4, .slice A7 (i + 1) c7, .slice none 0 0, .slice none 0 0, .slice none 0 0, .slice none 0 0]) := Lib.hid (HK12'.out.below hk13.1 (Nat.lt_succ_self _))
             clear hw12 ob gb tb ho13 hk13 hg13))
        go_roundw
        case rel => exact ⟨i + 1, c7, ca, cb, A7, Aa, Ab, _, _, qs ++ [q'], by omega, by go_num, rfl, rfl, HT13, HK13, HQ13, HB13⟩
        case measure => simp [intOf] <;> omega
      · obtain rfl : i = m := by omega
        have hact : (rs.map RU.act).take i = rs.map RU.act := List.take_of_length_le (by simp [HM.out])
        have hlef : (rs.map RU.left).take i = rs.map RU.left := List.take_of_length_le (by simp [HM.out])
        rw [hact, hlef] at HT
        clear hact hlef
        obtain ⟨t0, t1, t2, t3, t4, t5, tl⟩ := blk6 HK.out
        obtain ⟨p0, p1, pl⟩ := blk2 HKP.out
        have HCO : Hid (Row (era wr (E2t w.heap.size gt)) wr.heap.size AC (ints (rs.map RU.act)) ∧ i ≤ cC ∧ cC ≤ maxLen) := Lib.hid (by
          obtain ⟨r1, r2, r3⟩ := ow_row HT.out.o1
          refine ⟨ow_era HT.out.o1 (fun g hg hE => HT.out.n1 g hE ?_), r2, r3⟩
          show OwnE AC g
          unfold OwnE
          rw [← own_size (n := i) AC cC]
          exact hg)
        have HSO : Hid (StrsAt (era wr (E2t w.heap.size gt)) wr.heap.size A4 l) := Lib.hid (KE.strs (w := w5) ⟨fun b hb hE => HB.out.block b (by
          have : b ≠ gt := fun e => hE (.inr e)
          omega), HB.out.size⟩ HSS5.out)
        have HS4 := Lib.hid (show nl ≤ c4 ∧ c4 ≤ maxLen from (ow_row HO4.out).2)
        have CB := Lib.hid (build29_any (E2t w.heap.size gt) (rs.map RU.left) AL cL i nl nl wr HT.out.e0 (rowP.ps HT.out.o2 (by simp [HM.out]) (fun b h => .inl h) HT.out.n2) (by simp [HM.out]) (fun p hp => by
          obtain ⟨r, hr, rfl⟩ := List.mem_map.1 hp
          exact (HSM.out r hr).1) (by omega) (by omega))
        go_wp2_with fail
        refine CB.out.mono ?_
        rintro e wb ⟨Ab1, Ab2, cb1, cb2, nx, mk, va, rfl, hAb, hbb, hva⟩
        have HAb := Lib.hid hAb
        have HBb := Lib.hid hbb
        have HVA := Lib.hid hva
        obtain ⟨Nx, hNx⟩ : ∃ z, nx.length = z := ⟨_, rfl⟩
        obtain ⟨Mk, hMk⟩ : ∃ z, mk.length = z := ⟨_, rfl⟩
        have HNX := Lib.hid hNx
        have HMK := Lib.hid hMk
        rw [hNx, hMk]
        clear hAb hbb hva hNx hMk
        obtain ⟨wc, hwc, HBc, HKc⟩ := boxV wb 26 #[.slice Ab1 Nx cb1, .slice Ab2 Mk cb2]
        have HBc1 : Hid (Below wr.heap.size wr wc) := Lib.hid (HBb.out.trans (HBc.out.mono HBb.out.size))
        have HTc := Lib.hid (HT.out.after HBc1.out)
        have CB2 := build29_any (E2t w.heap.size gt) qs AR cR i nl (nl + 1) wc HTc.out.e0 (rowP.ps HTc.out.o3 HQ.out.1 (fun b h => .inl h) HTc.out.n3) HQ.out.1 HQ.out.2 (by omega) (by omega)
        rw [show ((nl + 1 : Nat) : Int) = (nl : Int) + 1 by omega] at CB2
        replace CB2 := Lib.hid CB2
        clear p0 p1 pl t0 t1 t2 t3 t4 t5 tl
        go_wp2_with fail
        rw [← hwc]
        clear hwc
        refine CB2.out.mono ?_
        rintro e wd ⟨Ad1, Ad2, cd1, cd2, nx2, mk2, vb, rfl, hAd, hbd, hvb⟩
        have HAd := Lib.hid hAd
        have HBd := Lib.hid hbd
        have HVB := Lib.hid hvb
        obtain ⟨Nx2, hNx⟩ : ∃ z, nx2.length = z := ⟨_, rfl⟩
        obtain ⟨Mk2, hMk⟩ : ∃ z, mk2.length = z := ⟨_, rfl⟩
        have HNX2 := Lib.hid hNx
        have HMK2 := Lib.hid hMk
        rw [hNx, hMk]
        clear hAd hbd hvb hNx hMk
        obtain ⟨we, hwe, HBe, HKe⟩ := boxV wd 26 #[.slice Ad1 Nx2 cd1, .slice Ad2 Mk2 cd2]
        have HBe1 : Hid (Below wr.heap.size wr we) := Lib.hid (HBc1.out.trans ((HBd.out.trans (HBe.out.mono HBd.out.size)).mono HBc1.out.size))
        have HKce := Lib.hid ((HKc.out.after HBd.out).after HBe.out)
        have HKte := Lib.hid (HK.out.after HBe1.out)
        have HBe2 : Hid (Below w2.heap.size w2 we) := Lib.hid (HBr.out.trans (HBe1.out.mono HBr.out.size))
        have hgtc : gt < wb.heap.size := by have := HBb.out.size; omega
        have hgtd : gt < wd.heap.size := by have := HBd.out.size; have := HBc.out.size; omega
        obtain ⟨ga, hga⟩ : ∃ z, z = wb.heap.size := ⟨_, rfl⟩
        obtain ⟨gb, hgb⟩ : ∃ z, z = wd.heap.size := ⟨_, rfl⟩
        have hgab : ga < gb := by have := HBd.out.size; have := HKc.out.lt; omega
        rw [← hga] at HKce ⊢
        rw [← hgb] at HKe
        have HGB := Lib.hid hgb
        have HGA := Lib.hid hga
        clear hga
        go_upto_region 15 with fail
        rw [← hwe, ← hgb]
        clear hwe hgb
        cases va
        · have HKRz := Lib.hid (HKR2.out.below (HBe2.out) (by omega))
          obtain ⟨f0, f1, f2, f3, f4, f5⟩ := free6 HKRz.out
          obtain ⟨y0, y1, y2, y3, y4, y5, yl⟩ := blk6 HKRz.out
          obtain ⟨wz, hwz, HKz, HBz⟩ : ∃ z, z = set6 we (w.heap.size + 1) (.slice none 0 0) (.slice none 0 0) (.slice none 0 0) (.slice none 0 0) (.slice none 0 0) (.slice none 0 0) ∧ Hid (Blk z (w.heap.size + 1) 28 #[.slice none 0 0, .slice none 0 0, .slice none 0 0, .slice none 0 0, .slice none 0 0, .slice none 0 0]) ∧ Hid (Below w.heap.size w z) :=
            ⟨_, rfl, Lib.hid (set6_blk HKRz.out), Lib.hid (set6_below (HBw2.out.trans ((HBe2.out).mono (by omega))) (Nat.le_succ _))⟩
          unfold set6 at hwz
          go_wp2
          rw [← hwz]
          obtain ⟨z0, z1, z2, z3, z4, z5, zl⟩ := blk6 HKz.out
          refine bodyPost_ret (v := .tuple #[.agg #[.slice none 0 0, .slice none 0 0, .slice none 0 0, .slice none 0 0, .slice none 0 0, .slice none 0 0], .int .i64 0, .bool false]) ?_ rfl ⟨TA.zero, BT.zero, 0, false, rfl, TabAt.zero, ⟨Nat.zero_le _, Nat.zero_le _⟩, HBz.out⟩
          simp [results, Try.results33, go_sem, z0, z1, z2, z3, z4, z5]
        · cases vb
          · have HKRz := Lib.hid (HKR2.out.below (HBe2.out) (by omega))
            obtain ⟨f0, f1, f2, f3, f4, f5⟩ := free6 HKRz.out
            obtain ⟨y0, y1, y2, y3, y4, y5, yl⟩ := blk6 HKRz.out
            obtain ⟨wz, hwz, HKz, HBz⟩ : ∃ z, z = set6 we (w.heap.size + 1) (.slice none 0 0) (.slice none 0 0) (.slice none 0 0) (.slice none 0 0) (.slice none 0 0) (.slice none 0 0) ∧ Hid (Blk z (w.heap.size + 1) 28 #[.slice none 0 0, .slice none 0 0, .slice none 0 0, .slice none 0 0, .slice none 0 0, .slice none 0 0]) ∧ Hid (Below w.heap.size w z) :=
              ⟨_, rfl, Lib.hid (set6_blk HKRz.out), Lib.hid (set6_below (HBw2.out.trans ((HBe2.out).mono (by omega))) (Nat.le_succ _))⟩
            unfold set6 at hwz
            go_wp2
            rw [← hwz]
            obtain ⟨z0, z1, z2, z3, z4, z5, zl⟩ := blk6 HKz.out
            refine bodyPost_ret (v := .tuple #[.agg #[.slice none 0 0, .slice none 0 0, .slice none 0 0, .slice none 0 0, .slice none 0 0, .slice none 0 0], .int .i64 0, .bool false]) ?_ rfl ⟨TA.zero, BT.zero, 0, false, rfl, TabAt.zero, ⟨Nat.zero_le _, Nat.zero_le _⟩, HBz.out⟩
            simp [results, Try.results33, go_sem, z0, z1, z2, z3, z4, z5]
          · obtain ⟨hx1, hx2, hx3, hx4, hx5⟩ := HVA.out rfl
            rw [HNX.out, HMK.out] at hx1
            rw [HNX.out] at hx2 hx3
            subst hx1
            obtain ⟨gx1, gx2, gx3, gx4, gx5⟩ := HVB.out rfl
            rw [HNX2.out, HMK2.out] at gx1
            rw [HNX2.out] at gx2 gx3
            subst gx1
            have HAA := Lib.hid (⟨HNX.out, HMK.out, fun r hr => ⟨(hx4 r hr).1, fun y hy => by have := (hx4 r hr).2 y hy; rw [HNX.out] at this; exact this⟩, fun r hr => by have := hx5 r hr; omega⟩ : Aut nl Nx nx mk)
            have HAB := Lib.hid (⟨HNX2.out, HMK2.out, fun r hr => ⟨(gx4 r hr).1, fun y hy => by have := (gx4 r hr).2 y hy; rw [HNX2.out] at this; exact this⟩, fun r hr => by have := gx5 r hr; omega⟩ : Aut nl Nx2 nx2 mk2)
            have KEb : KE (E2t w.heap.size gt) wb we := (KE.after HBc.out).trans ((KE.after HBd.out).trans (KE.after HBe.out))
            have HAe := Lib.hid (KEb.aut HAb.out)
            have HAde := Lib.hid ((KE.after HBe.out).aut HAd.out)
            have CM := Lib.hid (minimize29_any Ab1 Ab2 cb1 cb2 nl Nx nx mk we HAe.out.of_era HAA.out (by omega) (by omega) hx2)
            obtain ⟨p0, p1, pl⟩ := blk2 HKce.out
            obtain ⟨t0, t1, t2, t3, t4, t5, tl⟩ := blk6 HKte.out
            obtain ⟨f0, f1, f2, f3, f4, f5⟩ := free6 HKte.out
            clear hx3 hx4 hx5 gx4 gx5 KEb
            go_wp2_with fail
            refine CM.out.mono ?_
            rintro e wf ⟨M1, M2, cm1, cm2, nxa, mka, rfl, hAm, hbm⟩
            have HAm := Lib.hid (AutAt.less (E' := (E2t w.heap.size gt)) hAm (fun b h => by have := HTc.out.e0 b h; have := HBd.out.size; have := HBe.out.size; show b < _; omega))
            have HBm := Lib.hid hbm
            obtain ⟨Na, hNa⟩ : ∃ z, nxa.length = z := ⟨_, rfl⟩
            obtain ⟨Ma, hMa⟩ : ∃ z, mka.length = z := ⟨_, rfl⟩
            have HNA := Lib.hid hNa
            have HMA := Lib.hid hMa
            rw [hNa, hMa]
            clear hAm hbm hNa hMa p0 p1 pl t0 t1 t2 t3 t4 t5 tl f0 f1 f2 f3 f4 f5
            have HKtf := Lib.hid (HKte.out.after HBm.out)
            obtain ⟨t0, t1, t2, t3, t4, t5, tl⟩ := blk6 HKtf.out
            obtain ⟨f0, f1, f2, f3, f4, f5⟩ := free6 HKtf.out
            obtain ⟨wg, hwg, HKtg, HKbg, KEg, HBg⟩ : ∃ z, z = (wf.setCell ⟨gt, 2, none⟩ (.slice M1 Na cm1)).setCell ⟨gt, 3, none⟩ (.slice M2 Ma cm2) ∧ Hid (Blk z gt 28 #[.slice A4 nl c4, .slice AC i cC, .slice M1 Na cm1, .slice M2 Ma cm2, .slice none 0 0, .slice none 0 0]) ∧ Hid (Blk z gb 26 #[.slice Ad1 Nx2 cd1, .slice Ad2 Nx2 cd2]) ∧ Hid (KE (E2t w.heap.size gt) wf z) ∧ Hid (Below w2.heap.size w2 z) :=
              ⟨_, rfl, Lib.hid ((HKtf.out.set_ 2 _).set_ 3 _), Lib.hid (((HKe.out.after HBm.out).far (p := ⟨gt, 2, none⟩) (by show gb ≠ gt; have := HGB.out; omega) _).far (p := ⟨gt, 3, none⟩) (by show gb ≠ gt; have := HGB.out; omega) _), Lib.hid (set2_ke (.inr rfl)), Lib.hid (((HBe2.out.trans (HBm.out.mono HBe2.out.size)).setCell (p := ⟨gt, 2, none⟩) hgw _).setCell (p := ⟨gt, 3, none⟩) hgw _)⟩
            have HAdg := Lib.hid (KEg.out.aut ((KE.after HBm.out).aut HAde.out))
            have HAmg := Lib.hid (KEg.out.aut HAm.out)
            have CM2 := Lib.hid (minimize29_any Ad1 Ad2 cd1 cd2 nl Nx2 nx2 mk2 wg HAdg.out.of_era HAB.out (by omega) (by omega) gx2)
            obtain ⟨k0, k1, kl⟩ := blk2 HKbg.out
            go_upto_region 18 with fail
            rw [← hwg]
            clear hwg t0 t1 t2 t3 t4 t5 tl f0 f1 f2 f3 f4 f5
            go_wp2_with fail
            refine CM2.out.mono ?_
            rintro e wh ⟨P1, P2, cp1, cp2, nxb, mkb, rfl, hAp, hbp⟩
            have HAp := Lib.hid (AutAt.less (E' := (E2t w.heap.size gt)) hAp (fun b h => by have := HTc.out.e0 b h; have := HBd.out.size; have := HBe.out.size; have := HBm.out.size; have := KEg.out.2; show b < _; omega))
            have HBp := Lib.hid hbp
            obtain ⟨Nb, hNb⟩ : ∃ z, nxb.length = z := ⟨_, rfl⟩
            obtain ⟨Mb, hMb⟩ : ∃ z, mkb.length = z := ⟨_, rfl⟩
            have HNB := Lib.hid hNb
            have HMB := Lib.hid hMb
            rw [hNb, hMb]
            clear hAp hbp hNb hMb k0 k1 kl
            have HKth := Lib.hid (HKtg.out.after HBp.out)
            obtain ⟨t0, t1, t2, t3, t4, t5, tl⟩ := blk6 HKth.out
            obtain ⟨f0, f1, f2, f3, f4, f5⟩ := free6 HKth.out
            obtain ⟨wi, hwi, HKti, KEi, HBi⟩ : ∃ z, z = (wh.setCell ⟨gt, 4, none⟩ (.slice P1 Nb cp1)).setCell ⟨gt, 5, none⟩ (.slice P2 Mb cp2) ∧ Hid (Blk z gt 28 #[.slice A4 nl c4, .slice AC i cC, .slice M1 Na cm1, .slice M2 Ma cm2, .slice P1 Nb cp1, .slice P2 Mb cp2]) ∧ Hid (KE (E2t w.heap.size gt) wh z) ∧ Hid (Below w2.heap.size w2 z) :=
              ⟨_, rfl, Lib.hid ((HKth.out.set_ 4 _).set_ 5 _), Lib.hid (set2_ke (.inr rfl)), Lib.hid (((HBg.out.trans (HBp.out.mono HBg.out.size)).setCell (p := ⟨gt, 4, none⟩) hgw _).setCell (p := ⟨gt, 5, none⟩) hgw _)⟩
            go_upto_region 19 with fail
            rw [← hwi]
            clear hwi
            clear t0 t1 t2 t3 t4 t5 tl f0 f1 f2 f3 f4 f5
            have KEri : KE (E2t w.heap.size gt) wr wi := (KE.after HBe1.out).trans ((KE.after HBm.out).trans (KEg.out.trans ((KE.after HBp.out).trans KEi.out)))
            have HCi := Lib.hid (show Row (era wi (E2t w.heap.size gt)) wi.heap.size AC (ints (rs.map RU.act)) ∧ i ≤ cC ∧ cC ≤ maxLen from ⟨KEri.row HCO.out.1, HCO.out.2⟩)
            have HSi := Lib.hid (KEri.strs HSO.out)
            have HAmi := Lib.hid (KEi.out.aut ((KE.after HBp.out).aut HAmg.out))
            have HApi := Lib.hid (KEi.out.aut HAp.out)
            obtain ⟨t0, t1, t2, t3, t4, t5, tl⟩ := blk6 HKti.out
            by_cases hLa : 400 < Na
            · have HKRz := Lib.hid (HKR2.out.below (HBi.out) (by omega))
              obtain ⟨f0, f1, f2, f3, f4, f5⟩ := free6 HKRz.out
              obtain ⟨y0, y1, y2, y3, y4, y5, yl⟩ := blk6 HKRz.out
              obtain ⟨wz, hwz, HKz, HBz⟩ : ∃ z, z = set6 wi (w.heap.size + 1) (.slice none 0 0) (.slice none 0 0) (.slice none 0 0) (.slice none 0 0) (.slice none 0 0) (.slice none 0 0) ∧ Hid (Blk z (w.heap.size + 1) 28 #[.slice none 0 0, .slice none 0 0, .slice none 0 0, .slice none 0 0, .slice none 0 0, .slice none 0 0]) ∧ Hid (Below w.heap.size w z) :=
                ⟨_, rfl, Lib.hid (set6_blk HKRz.out), Lib.hid (set6_below (HBw2.out.trans ((HBi.out).mono (by omega))) (Nat.le_succ _))⟩
              unfold set6 at hwz
              go_wp2
              rw [← hwz]
              obtain ⟨z0, z1, z2, z3, z4, z5, zl⟩ := blk6 HKz.out
              refine bodyPost_ret (v := .tuple #[.agg #[.slice none 0 0, .slice none 0 0, .slice none 0 0, .slice none 0 0, .slice none 0 0, .slice none 0 0], .int .i64 13, .bool true]) ?_ rfl ⟨TA.zero, BT.zero, 13, true, rfl, TabAt.zero, ⟨Nat.zero_le _, Nat.zero_le _⟩, HBz.out⟩
              simp [results, Try.results33, go_sem, z0, z1, z2, z3, z4, z5]
            · have iLa : ¬ (400 : Int) < (Na : Int) := by omega
              have dLa : decide (400 < Na) = false := decide_eq_false hLa
              by_cases hLb : 400 < Nb
              · have HKRz := Lib.hid (HKR2.out.below (HBi.out) (by omega))
                obtain ⟨f0, f1, f2, f3, f4, f5⟩ := free6 HKRz.out
                obtain ⟨y0, y1, y2, y3, y4, y5, yl⟩ := blk6 HKRz.out
                obtain ⟨wz, hwz, HKz, HBz⟩ : ∃ z, z = set6 wi (w.heap.size + 1) (.slice none 0 0) (.slice none 0 0) (.slice none 0 0) (.slice none 0 0) (.slice none 0 0) (.slice none 0 0) ∧ Hid (Blk z (w.heap.size + 1) 28 #[.slice none 0 0, .slice none 0 0, .slice none 0 0, .slice none 0 0, .slice none 0 0, .slice none 0 0]) ∧ Hid (Below w.heap.size w z) :=
                  ⟨_, rfl, Lib.hid (set6_blk HKRz.out), Lib.hid (set6_below (HBw2.out.trans ((HBi.out).mono (by omega))) (Nat.le_succ _))⟩
                unfold set6 at hwz
                go_wp2
                rw [← hwz]
                obtain ⟨z0, z1, z2, z3, z4, z5, zl⟩ := blk6 HKz.out
                refine bodyPost_ret (v := .tuple #[.agg #[.slice none 0 0, .slice none 0 0, .slice none 0 0, .slice none 0 0, .slice none 0 0, .slice none 0 0], .int .i64 13, .bool true]) ?_ rfl ⟨TA.zero, BT.zero, 13, true, rfl, TabAt.zero, ⟨Nat.zero_le _, Nat.zero_le _⟩, HBz.out⟩
                simp [results, Try.results33, go_sem, z0, z1, z2, z3, z4, z5]
              · have iLb : ¬ (400 : Int) < (Nb : Int) := by omega
                have dLb : decide (400 < Nb) = false := decide_eq_false hLb
                have HKRz := Lib.hid (HKR2.out.below HBi.out (by omega))
                obtain ⟨f0, f1, f2, f3, f4, f5⟩ := free6 HKRz.out
                obtain ⟨y0, y1, y2, y3, y4, y5, yl⟩ := blk6 HKRz.out
                obtain ⟨wz, hwz, HKz, KEz, HBz⟩ : ∃ z, z = set6 wi (w.heap.size + 1) (.slice A4 nl c4) (.slice AC i cC) (.slice M1 Na cm1) (.slice M2 Ma cm2) (.slice P1 Nb cp1) (.slice P2 Mb cp2) ∧ Hid (Blk z (w.heap.size + 1) 28 #[.slice A4 nl c4, .slice AC i cC, .slice M1 Na cm1, .slice M2 Ma cm2, .slice P1 Nb cp1, .slice P2 Mb cp2]) ∧ Hid (KE (E2t w.heap.size gt) wi z) ∧ Hid (Below w.heap.size w z) :=
                  ⟨_, rfl, Lib.hid (set6_blk HKRz.out), Lib.hid (set6_ke (.inl rfl)), Lib.hid (set6_below (HBw2.out.trans (HBi.out.mono (by omega))) (Nat.le_succ _))⟩
                have HTAB : Hid (TabAt wz wz.heap.size ⟨A4, AC, M1, M2, P1, P2, c4, cC, cm1, cm2, cp1, cp2⟩ ⟨l, rs.map RU.act, nxa, mka, nxb, mkb⟩) := Lib.hid (TabAt.of_era (E := (E2t w.heap.size gt)) ⟨⟨KEz.out.strs HSi.out, by show l.length ≤ c4; rw [HNL.out]; exact HS4.out.1, HS4.out.2⟩, ⟨KEz.out.row HCi.out.1, by show (rs.map RU.act).length ≤ cC; rw [List.length_map, HM.out]; exact HCi.out.2.1, HCi.out.2.2⟩, KEz.out.aut HAmi.out, KEz.out.aut HApi.out⟩)
                unfold set6 at hwz
                go_wp2
                rw [← hwz]
                obtain ⟨z0, z1, z2, z3, z4, z5, zl⟩ := blk6 HKz.out
                refine bodyPost_ret (v := .tuple #[.agg #[.slice A4 nl c4, .slice AC i cC, .slice M1 Na cm1, .slice M2 Ma cm2, .slice P1 Nb cp1, .slice P2 Mb cp2], .int .i64 0, .bool true]) ?_ rfl ⟨_, _, 0, true, ?_, HTAB.out, ⟨by show l.length ≤ 6; rw [HNL.out]; exact hl6, by show (rs.map RU.act).length ≤ 6; rw [List.length_map, HM.out]; exact hr6⟩, HBz.out⟩
                · simp [results, Try.results33, go_sem, z0, z1, z2, z3, z4, z5]
                · simp only [TA.val]
                  rw [HNL.out, List.length_map, HM.out, HNA.out, HMA.out, HNB.out, HMB.out]
  · have dv : decide (v = 0) = false := decide_eq_false hv
    have bv : (v != 0) = true := by simpa using hv
    obtain ⟨f0, f1, f2, f3, f4, f5⟩ := free6 HKR2.out
    obtain ⟨y0, y1, y2, y3, y4, y5, yl⟩ := blk6 HKR2.out
    obtain ⟨wf, hwf, HKf, HBf⟩ : ∃ z, z = set6 w2 (w.heap.size + 1) (.slice none 0 0) (.slice none 0 0) (.slice none 0 0) (.slice none 0 0) (.slice none 0 0) (.slice none 0 0) ∧ Hid (Blk z (w.heap.size + 1) 28 #[.slice none 0 0, .slice none 0 0, .slice none 0 0, .slice none 0 0, .slice none 0 0, .slice none 0 0]) ∧ Hid (Below w.heap.size w z) :=
      ⟨_, rfl, Lib.hid (set6_blk HKR2.out), Lib.hid (set6_below HBw2.out (Nat.le_succ _))⟩
    unfold set6 at hwf
    go_wp2
    rw [← hwf]
    obtain ⟨z0, z1, z2, z3, z4, z5, zl⟩ := blk6 HKf.out
    refine bodyPost_ret (v := .tuple #[.agg #[.slice none 0 0, .slice none 0 0, .slice none 0 0, .slice none 0 0, .slice none 0 0, .slice none 0 0], .int .i64 v, .bool true]) ?_ rfl ⟨TA.zero, BT.zero, v, true, rfl, TabAt.zero, ⟨Nat.zero_le _, Nat.zero_le _⟩, HBf.out⟩
    simp [results, Try.results33, go_sem, z0, z1, z2, z3, z4, z5]
end Go.Proofs.Ytkoojoogddndnaa
