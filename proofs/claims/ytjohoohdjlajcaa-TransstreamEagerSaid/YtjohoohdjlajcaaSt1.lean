/-
  (*transstream.buffer).trim as a deferred call; (*transstream.Stream).Close$1.
  A stream over the whole input so far; (*transstream.Stream).Write.
  (*transstream.Stream).Close, Pending; closed and nil streams.
-/
import Derived.Test.YtjohoohdjlajcaaSt0
import Derived.Test.YtjohoohdjlajcaaEra
import Derived.Defers
namespace Go.Proofs.Ytjohoohdjlajcaa
open Go.RowKit Go.UtYtjohoohdjlajcaa
attribute [local go_sem high] cut_l cut_lh cutA_zero
/-- the buffer keeps what steps look back at -/
def Trimmed (w : World) (g : Nat) (_A : Option Addr) (n _c q : Nat) (Ar : Option Addr) (nr cr bf ah : Nat) (op : Bool) (items : List Int) (w' : World) : Prop :=
  (q ≤ bf ∧ w' = w) ∨ (bf < q ∧ ∃ A' c', Blk w' g 53 (strC A' (n - (q - bf)) c' bf Ar nr cr bf ah op) ∧ w'.ownsRow w.heap.size 3 1 (.slice A' (n - (q - bf)) c') (n - (q - bf)) (ints (items.drop (q - bf))) ∧ Fr w w' g)
set_option maxRecDepth 100000 in
set_option maxHeartbeats 1000000 in
theorem trim_d (g : Nat) (A : Option Addr) (n c q : Nat) (Ar : Option Addr) (nr cr bf ah : Nat) (op : Bool) (items : List Int) (u : FrameMode) (w : World) (hG : Blk w g 53 (strC A n c q Ar nr cr bf ah op))
    (hA : Row (era w (· = g)) w.heap.size A (ints items)) (hn : items.length = n) (hc : n ≤ c) (hq : q ≤ n) (hl : n ≤ 10000) (hb : bf ≤ 10000) :
    CallsD Try.prog 30 #[.pointer (some ⟨g, 0, none⟩), .int .i64 (bf : Int)] u w fun e u' w' => u' = u ∧ (e = .returned (.tuple #[]) ∧ Trimmed w g A n c q Ar nr cr bf ah op items w') := by
  have HG := Lib.hid hG
  have HA := Lib.hid hA
  have HN := Lib.hid hn
  obtain ⟨e0, e1, e2, e3, e4, e5⟩ := str6 hG
  have hlt := hG.lt
  have f0 := hG.free 0
  have f1 := hG.free 1
  clear hG hA hn
  by_cases hx : q ≤ bf
  · have k1 : ¬ (0 : Int) < (q : Int) - (bf : Int) := by omega
    go_enter_d Try.func30, Try.ntmps30
    go_wp2
    go_end0
    exact ⟨rfl, .inl ⟨hx, rfl⟩⟩
  · obtain ⟨x, hx2⟩ : ∃ x, x = q - bf := ⟨_, rfl⟩
    have k1 : (q : Int) - (bf : Int) = (x : Int) := by omega
    have k2 : IntKind.i64.wrap ((q : Int) - (bf : Int)) = (x : Int) := by rw [k1]; exact IntWalk.i64_in _ (by omega)
    have k3 : (0 : Int) < (x : Int) := by omega
    have k4 : (x : Int) ≤ (n : Int) := by omega
    have k5 : IntKind.i64.wrap ((q : Int) - (x : Int)) = (bf : Int) := by rw [show (q : Int) - (x : Int) = (bf : Int) by omega]; exact IntWalk.i64_in _ (by omega)
    have HR : Hid (Row w w.heap.size (cutA A c x 1) (ints (items.drop x))) := (HA.out.of_era).tail (by rw [HN.out]; exact hc)
    have HCL := clone_int (cutA A c x 1) (n - x) (c - x) (ints (items.drop x)) w HR.out (by rw [ints_len, List.length_drop, HN.out, Nat.mul_one]) (ints_one _) (by omega)
    unfold RetCl at HCL
    replace HCL := Lib.hid HCL
    have HX := Lib.hid hx2
    clear k1 hx2
    go_enter_d Try.func30, Try.ntmps30
    go_wp2_with fail
    refine HCL.out.mono ?_
    rintro e w1 ⟨A1, c1, rfl, ho1, hb1⟩
    have HO1 := Lib.hid ho1
    have HB1 := Lib.hid hb1
    have HG1 := Lib.hid (HG.out.after hb1)
    obtain ⟨y0, y1, y2, y3, y4, y5⟩ := str6 HG1.out
    have z0 := HG1.out.free 0
    have z1 := HG1.out.free 1
    have hl1 := HG1.out.lt
    clear ho1 hb1
    go_wp2
    go_end0
    refine ⟨rfl, .inr ⟨by omega, A1, c1, ?_, ?_, ?_⟩⟩
    · rw [← HX.out]
      exact (HG1.out.set_ 0 _).set_ 1 _
    · rw [← HX.out]
      exact ow_set (ow_set HO1.out (p := ⟨g, 0, none⟩) hlt) (p := ⟨g, 1, none⟩) hlt
    · exact (((Fr.refl w g).after HB1.out hlt).set 0 _).set 1 _
end Go.Proofs.Ytjohoohdjlajcaa
namespace Go.UtYtjohoohdjlajcaa
open Go.RowKit
/-- a region that draws its order and does not panic, in a function that defers -/
theorem wp_region_calm {P : Program} {ops : Array Oper} {Q : Exit → Act → World → Prop} {id : Nat} {a : Act} {w : World} (S : World → Prop) (t : Tr) (hm : P.follows .mixedOrders = true) (hc : trOk ops t = true) (hS : S w.drew)
    (h : wpTr P ops (fun e a w => (∀ c, e ≠ .panic c) ∧ Q e a w) S t a w.drew) : (Code.region id ops true).wp P Q a w :=
  Code.wp_mono (fun _ _ _ q => q.2) (wp_region_tree S t hm hc (fun c _ _ _ _ h => absurd rfl (h.1 c)) hS h)
end Go.UtYtjohoohdjlajcaa
namespace Go.Proofs.Ytjohoohdjlajcaa
open Go.RowKit Go.UtYtjohoohdjlajcaa
attribute [local go_sem high] cut_l cut_lh cutA_zero
/-- an open stream: D its rules, inp the whole input so far, p the position of the next step; Y its own blocks that change, X those of others that may change -/
def StrAt (w : World) (Y X : Nat → Prop) (B g : Nat) (D : List TR) (bf ah : Nat) (inp : List Int) (p : Nat) : Prop :=
  ∃ (A Ar : Option Addr) (c cr n b B1 : Nat),
    Blk w g 53 (strC A n c (p - b) Ar D.length cr bf ah true) ∧ w.ownsRow B1 3 1 (.slice A n c) n (ints (inp.drop b)) ∧ RulesAt (era w (fun x => x ≤ g ∨ X x)) B1 Ar D ∧ (D.length ≤ cr ∧ cr ≤ maxLen) ∧
    (B ≤ g ∧ g < B1 ∧ B1 ≤ w.heap.size) ∧ (b = 0 ∨ b + bf ≤ p) ∧ b ≤ p ∧ p ≤ inp.length ∧ inp.length - b = n ∧ ¬ X g ∧ (∀ x, (Value.slice A n c).ownBlock = some x → ¬ X x) ∧ (∀ y, Y y ↔ y = g ∨ (Value.slice A n c).ownBlock = some y)
section
variable {w w' : World} {Y X X' : Nat → Prop} {B g bf ah p : Nat} {D : List TR} {inp : List Int}
theorem StrAt.keep (h : StrAt w Y X B g D bf ah inp p) (hs : w.heap.size ≤ w'.heap.size) (hk : ∀ b, b < w.heap.size → ¬ X b → w'.heap[b]? = w.heap[b]?) : StrAt w' Y X B g D bf ah inp p := by
  obtain ⟨A, Ar, c, cr, n, b, B1, h1, h2, h3, h4, ⟨h5, h6, h7⟩, h8, h9, h10, h11, h12, h13, h14⟩ := h
  refine ⟨A, Ar, c, cr, n, b, B1, (hk g h1.lt h12).trans h1, own_keepX h2 (fun x hx hl => hk x hl (h13 x hx)), h3.era_keep (fun b hb hx => hk b (by omega) (fun h => hx (.inr h))) (fun _ _ h => h), h4, ⟨h5, h6, by omega⟩, h8, h9, h10, h11, h12, h13, h14⟩
theorem StrAt.newX (h : StrAt w Y X B g D bf ah inp p) (hx : ∀ x, X' x → w.heap.size ≤ x ∨ X x) : StrAt w Y X' B g D bf ah inp p := by
  obtain ⟨A, Ar, c, cr, n, b, B1, h1, h2, h3, h4, ⟨h5, h6, h7⟩, h8, h9, h10, h11, h12, h13, h14⟩ := h
  refine ⟨A, Ar, c, cr, n, b, B1, h1, h2, h3.era_keep (fun _ _ _ => rfl) (fun b hb h => ?_), h4, ⟨h5, h6, h7⟩, h8, h9, h10, h11, fun h => ?_, fun x hx' h => ?_, h14⟩
  · rcases h with h | h
    · exact .inl h
    · rcases hx b h with h | h
      · omega
      · exact .inr h
  · rcases hx g h with h | h
    · have := h1.lt
      omega
    · exact h12 h
  · rcases hx x h with h | h
    · have := (own_lt h2 x hx').2.1
      omega
    · exact h13 x hx' h
theorem StrAt.own (h : StrAt w Y X B g D bf ah inp p) : ∀ y, Y y → B ≤ y ∧ y < w.heap.size ∧ ¬ X y := by
  obtain ⟨A, Ar, c, cr, n, b, B1, h1, h2, h3, h4, ⟨h5, h6, h7⟩, h8, h9, h10, h11, h12, h13, h14⟩ := h
  intro y hy
  rcases (h14 y).1 hy with rfl | hy
  · exact ⟨h5, h1.lt, h12⟩
  · have := own_lt h2 y hy
    exact ⟨by omega, this.2.1, h13 y hy⟩
end
theorem own_less {w : World} {base base' e size n : Nat} {v : Value} {xs : List Value} (h : w.ownsRow base e size v n xs) (hb : base' ≤ base) : w.ownsRow base' e size v n xs := by
  refine ⟨h.1, ?_⟩
  rcases h.2 with h' | ⟨g, cap, cur, hv, hb', h'⟩
  · exact .inl h'
  · exact .inr ⟨g, cap, cur, hv, by omega, h'⟩
/-- rules that a stream may have -/
def okD (D : List TR) (bf ah : Nat) : Prop := dataL D = D ∧ smR D ∧ bfR D ≤ bf ∧ bf ≤ 1000 ∧ 1 ≤ ah ∧ ah ≤ 1000
/-- what a call on a stream changes -/
def Step (w w' : World) (Y Y' : Nat → Prop) (B : Nat) : Prop := Below B w w' ∧ (∀ y, Y' y → Y y ∨ w.heap.size ≤ y) ∧ ∀ b, b < w.heap.size → ¬ Y b → w'.heap[b]? = w.heap[b]?
/-- the call returns what the steps write; the stream goes on -/
def RetW (w : World) (Y X : Nat → Prop) (B g : Nat) (D : List TR) (bf ah : Nat) (inp : List Int) (R : List Int × Nat) (e : Ending) (w' : World) : Prop :=
  ∃ (A' : Option Addr) (c' : Nat) (Y' : Nat → Prop), e = .returned (.tuple #[.slice A' R.1.length c', .int .i64 0]) ∧ R.1.length ≤ c' ∧ c' ≤ maxLen ∧ Row (era w' (fun x => x < w.heap.size ∨ Y' x)) w'.heap.size A' (ints R.1) ∧ StrAt w' Y' X B g D bf ah inp R.2 ∧ Step w w' Y Y' B
set_option maxRecDepth 100000 in
set_option maxHeartbeats 4000000 in
theorem write_any (Y X : Nat → Prop) (B g : Nat) (D : List TR) (bf ah : Nat) (inp text : List Int) (p : Nat) (At : Option Addr) (ct : Nat) (w : World) (hS : StrAt w Y X B g D bf ah inp p) (hX : ∀ x, X x → x < w.heap.size) (hD : okD D bf ah) (hT : Row w w.heap.size At (ints text)) (hl : inp.length + text.length ≤ 10000)
    (R : List Int × Nat) (hRes : stS D (inp ++ text) ah p = R) :
    Calls Try.prog 14 #[.pointer (some ⟨g, 0, none⟩), .slice At text.length ct] w (RetW w Y X B g D bf ah (inp ++ text) R) := by
  obtain ⟨A, Ar, c, cr, n, b, B1, h1, h2, h3, h4, ⟨h5, h6, h7⟩, h8, h9, h10, h11, h12, h13, h14⟩ := hS
  obtain ⟨d1, d2, d3, d4, d5, d6⟩ := hD
  have HG := Lib.hid h1
  have HO := Lib.hid h2
  have HRU := Lib.hid h3
  have HCR := Lib.hid h4
  have HT := Lib.hid hT
  have HY := Lib.hid h14
  have HX13 := Lib.hid h13
  have HMO := Lib.hid (data_mat D)
  have HFI := Lib.hid (data_fit D)
  rw [d1] at HMO HFI
  obtain ⟨q, hq⟩ : ∃ q, q = p - b := ⟨_, rfl⟩
  rw [← hq] at HG h1
  have HQ := Lib.hid hq
  have hlt := h1.lt
  obtain ⟨e0, e1, e2, e3, e4, e5⟩ := str6 h1
  have f0 := h1.free 0
  obtain ⟨nt, hnt⟩ : ∃ n, text.length = n := ⟨_, rfl⟩
  rw [hnt] at hl ⊢
  have HNT := Lib.hid hnt
  have hqn : q ≤ n := by omega
  have hnl : n + nt ≤ 10000 := by omega
  have hdr : (inp.drop b).length = n := by rw [List.length_drop]; exact h11
  have HDA : Hid ((inp ++ text).drop b = inp.drop b ++ text) := by
    show _ = _
    rw [List.drop_append_of_le_length (by omega)]
  have HST : Hid (stS D ((inp ++ text).drop b) ah q = (R.1, R.2 - b)) := by
    have := stS_drop (h := ah) (inp := inp ++ text) HMO.out HFI.out d5 (b := b) (bf := bf) (by simp; omega) d3 p (by simp; omega) h8
    rw [← hq, hRes] at this
    exact this
  have HLE := Lib.hid (stS_le (h := ah) (inp := inp ++ text) HMO.out d5 p (by simp; omega))
  rw [hRes] at HLE
  have HDL := Lib.hid hdr
  have HB8 := Lib.hid h8
  have HOK := Lib.hid (And.intro d1 (And.intro d2 d3))
  have h200 := data_200 D
  rw [d1] at h200
  clear h1 h2 h3 h4 h13 h14 hT hnt hdr d1 d2 d3 h8
  obtain ⟨i0, hi0, hz0, hz1, hz2⟩ := info_parts in_info
  go_enter_defers Try.func14, Try.ntmps14
  go_wp2_with (first
    | (at_builtin
       refine wpList_append_row _ rfl (.tmp 20) (.tmp 21) _ rfl B1 3 i0 _ 1 8 Try.underlying31 hi0 hz0 hz1 hz2 rfl (by omega) (.slice A n c) n (ints (inp.drop b)) rfl HO.out _ _ nt ct (ints text) rfl (by rw [ints_len, HNT.out, Nat.mul_one]) HT.out (ints_one _) (by simp only [maxLen]; omega) (by omega) h7 ?_
       intro q2 w2 o2 g2 t2
       rw [← ints_append, ← HDA.out] at o2
       obtain ⟨A2, c2, rfl⟩ := ow_slice (m := n + nt) o2 rfl
       have HG2 : Hid (Blk w2 g 53 (strC A n c q Ar D.length cr bf ah true)) := bk_grown HG.out g2 (fun e => by have := own_base HO.out g e.symm; omega)
       obtain ⟨y0, y1, y2, y3, y4, y5⟩ := str6 HG2.out
       have z0 := HG2.out.free 0
       have hl2 := HG2.out.lt
       have HO2 := Lib.hid o2
       have G2 := Lib.hid g2
       have T2 := Lib.hid t2
       clear o2 g2 t2))
  obtain ⟨w3, hw3, HG3, HO3, HK3, HB3⟩ : ∃ v, v = w2.setCell ⟨g, 0, none⟩ (.slice A2 (n + nt) c2) ∧ Hid (Blk v g 53 (strC A2 (n + nt) c2 q Ar D.length cr bf ah true)) ∧ Hid (v.ownsRow B1 3 1 (.slice A2 (n + nt) c2) (n + nt) (ints ((inp ++ text).drop b))) ∧ Hid (w.heap.size ≤ v.heap.size ∧ ∀ x, x < w.heap.size → x ≠ g → (Value.slice A n c).ownBlock ≠ some x → v.heap[x]? = w.heap[x]?) ∧ Hid (Below B w v) := by
    refine ⟨_, rfl, HG2.out.set_ 0 _, ow_set HO2.out (p := ⟨g, 0, none⟩) h6, ⟨by have := G2.out.size; simpa using this, fun x hx hg hy => ?_⟩, ?_⟩
    · rw [Below.heap_setCell w2 ⟨g, 0, none⟩ _ x hg, G2.out.block x hx (fun e => hy e.symm)]
    · exact ((Below.refl _ _).grown G2.out (by omega) (fun x hx => by have := own_base HO.out x hx; omega)).setCell (p := ⟨g, 0, none⟩) h5 _
  rw [← hw3]
  clear hw3 y0 y1 y2 y3 y4 y5 z0 hl2 e0 e1 e2 e3 e4 e5 f0
  refine wp_region_calm (fun w' => Blk w' g 53 (strC A2 (n + nt) c2 q Ar D.length cr bf ah true)) (.float 0 (.float 1 (.float 2 (.float 3 (.float 4 (.float 5 (.float 6 (.one 7 .done)))))))) (by kernel_rfl) (by kernel_rfl) HG3.out ?_
  repeat (first
    | (refine wpTr_fskip (by simp only [List.getElem?_toArray, List.getElem?_cons_zero, List.getElem?_cons_succ]; rfl) (by rfl) ?_
       simp only [Act.put, List.setIfInBounds_toArray, List.set_cons_zero, List.set_cons_succ])
    | (refine wpTr_float (v := ?_) (by simp only [List.getElem?_toArray, List.getElem?_cons_zero, List.getElem?_cons_succ]; rfl) (by rfl) (fun w' hS => ?_) ?_
       rotate_left
       ((obtain ⟨e0', e1', e2', e3', e4', e5'⟩ := str6 hS; have hlS := hS.lt); go_simp; first | done | rfl)
       simp only [Act.put, List.setIfInBounds_toArray, List.set_cons_zero, List.set_cons_succ]))
  refine wpTr_one ?_
  refine stepTr_K (by simp only [List.getElem?_toArray, List.getElem?_cons_zero, List.getElem?_cons_succ]; rfl) (by rfl) (fun K hK => ?_)
  go_simp
  refine hK.out _ _ HG3.out ?_
  clear hK K
  try simp only [Act.put, List.setIfInBounds_toArray, List.set_cons_zero, List.set_cons_succ]
  refine wpTr_done ⟨(fun _ h => by cases h), ?_⟩
  obtain ⟨w4, hw4, HBd⟩ : ∃ v, v = w3.drew ∧ Hid (Below w3.heap.size w3 v) := ⟨_, rfl, (Below.refl _ _).drew⟩
  rw [← hw4]
  clear hw4
  have HG4 := Lib.hid (HG3.out.after HBd.out)
  have HO4 := Lib.hid (ow_below HO3.out HBd.out)
  have hs34 := HBd.out.size
  have hs3 := HK3.out.1
  have HK4 : Hid (∀ x, x < w.heap.size → x ≠ g → (Value.slice A n c).ownBlock ≠ some x → w4.heap[x]? = w.heap[x]?) := fun x hx h1 h2 => (HBd.out.block x (by omega)).trans (HK3.out.2 x hx h1 h2)
  have HB4 : Hid (Below B w w4) := HB3.out.trans (HBd.out.mono (by omega))
  have HR4 : Hid (RulesAt (era w4 (fun x => x ≤ g ∨ X x)) B1 Ar D) := HRU.out.era_keep (fun x hx hE => HK4.out x (by omega) (fun e => hE (.inl (by omega))) (fun e => by have := own_base HO.out x e; omega)) (fun _ _ h => h)
  obtain ⟨hro4, hc41, hc42⟩ := ow_row HO4.out
  have HIT : Hid (Row (era w4 (· = g)) w4.heap.size A2 (ints ((inp ++ text).drop b))) := hro4.era_new (own_new HO4.out) (fun x (h : x = g) => by omega)
  have HRG : Hid (RulesAt (era w4 (· = g)) w4.heap.size Ar D) := (HR4.out.era_keep (fun _ _ _ => rfl) (fun x _ (h : x = g) => .inl (by omega))).more (by omega)
  have hil : ((inp ++ text).drop b).length = n + nt := by rw [HDA.out, List.length_append, HDL.out, HNT.out]
  have HSTEPS := steps_any g A2 (n + nt) c2 q Ar D.length cr bf ah true ah D ((inp ++ text).drop b) w4 HG4.out HIT.out hil hc41 hc42 HRG.out rfl HCR.out.1 HCR.out.2 HOK.out.2.1 HOK.out.1 (by omega) hnl d5 (by omega) (R.1, R.2 - b) HST.out
  have HIL := Lib.hid hil
  unfold RetSteps at HSTEPS
  simp only at HSTEPS
  obtain ⟨m, hm⟩ : ∃ m, R.1.length = m := ⟨_, rfl⟩
  have HM := Lib.hid hm
  rw [hm] at HSTEPS
  replace HSTEPS := Lib.hid HSTEPS
  obtain ⟨e0, e1, e2, e3, e4, e5⟩ := str6 HG4.out
  have hl4 := HG4.out.lt
  clear hro4 hil hm
  go_wp2_with fail
  refine HSTEPS.out.mono ?_
  rintro e w5 ⟨A5, c5, rfl, ho5, hg5, hf5⟩
  have HO5 := Lib.hid ho5
  have HG5 := Lib.hid hg5
  have HF5 := Lib.hid hf5
  clear ho5 hg5 hf5
  go_wp2
  have hs45 := HF5.out.size
  have HIT5 : Hid (Row (era w5 (· = g)) w5.heap.size A2 (ints ((inp ++ text).drop b))) := (HIT.out.era_keep (fun x hx hE => HF5.out.2 x hx hE) (fun _ _ h => h)).more hs45
  have hle := HLE.out
  have hlen : (inp ++ text).length = inp.length + nt := by rw [List.length_append, HNT.out]
  rw [hlen] at hle
  have hw4 : w.heap.size ≤ w4.heap.size := by omega
  have OW4 := Lib.hid (own_lt HO4.out)
  have HXN : Hid (∀ x, (Value.slice A2 (n + nt) c2).ownBlock = some x → ¬ X x) := fun x hx h => by
    rcases T2.out with t | t
    · exact HX13.out x (by rw [← t]; exact hx) h
    · rw [t] at hx
      injection hx with hx
      have := hX x h
      omega
  have HYN : Hid (∀ x, (Value.slice A2 (n + nt) c2).ownBlock = some x → Y x ∨ w.heap.size ≤ x) := fun x hx => by
    rcases T2.out with t | t
    · exact .inl ((HY.out x).2 (.inr (by rw [← t]; exact hx)))
    · rw [t] at hx
      injection hx with hx
      exact .inr (by omega)
  have HK5 : Hid (∀ x, x < w.heap.size → ¬ Y x → w5.heap[x]? = w.heap[x]?) := fun x hx hy => by
    have h1 : x ≠ g := fun e => hy ((HY.out x).2 (.inl e))
    exact (HF5.out.2 x (by omega) h1).trans (HK4.out x hx h1 (fun e => hy ((HY.out x).2 (.inr e))))
  have HB5 : Hid (Below B w w5) := HB4.out.trans (HF5.out.below h5)
  have HR5 : Hid (RulesAt (era w5 (fun x => x ≤ g ∨ X x)) B1 Ar D) := HR4.out.era_keep (fun x hx hE => HF5.out.2 x (by omega) (fun e => hE (.inl (by omega)))) (fun _ _ h => h)
  obtain ⟨hro5, hc51, hc52⟩ := ow_row HO5.out
  have HRES : Hid (Row (era w5 (· < w4.heap.size)) w5.heap.size A5 (ints R.1)) := hro5.era_new (own_new HO5.out) (fun _ h => h)
  have HC5 := Lib.hid (And.intro hc51 hc52)
  have HB8' : Hid (b = 0 ∨ b + bf ≤ R.2) := by
    rcases HB8.out with h | h
    · exact .inl h
    · exact .inr (by omega)
  refine leaves_cons (f := 30) (args := #[.pointer (some ⟨g, 0, none⟩), .int .i64 (bf : Int)]) (by simp) (by simp [go_sem]) ?_
  refine (trim_d g A2 (n + nt) c2 (R.2 - b) Ar D.length cr bf ah true ((inp ++ text).drop b) .returning w5 HG5.out HIT5.out HIL.out hc41 (by omega) hnl (by omega)).mono ?_
  rintro e u' w6 ⟨rfl, rfl, htr⟩
  rcases htr with ⟨hqb, hw6⟩ | ⟨hqb, A6, c6, hg6, ho6, hf6⟩
  · rw [hw6]
    refine ⟨_, results_tmp2 rfl _ _ _, A5, c5, (fun y => y = g ∨ (Value.slice A2 (n + nt) c2).ownBlock = some y), by rw [HM.out]; rfl, by rw [HM.out]; exact HC5.out.1, HC5.out.2, ?_, ⟨A2, Ar, c2, cr, n + nt, b, B1, HG5.out, ?_, HR5.out, HCR.out, ⟨h5, h6, by omega⟩, HB8'.out, by omega, by rw [hlen]; omega, by rw [hlen]; omega, h12, HXN.out, fun _ => Iff.rfl⟩, HB5.out, ?_, HK5.out⟩
    · refine HRES.out.era_keep (fun _ _ _ => rfl) (fun x _ h => ?_)
      rcases h with h | h | h
      · omega
      · omega
      · exact (OW4.out x h).2.1
    · exact own_keepX HO4.out (fun x hx hl => HF5.out.2 x hl (fun e => by have := (OW4.out x hx).1; omega))
    · intro y hy
      rcases hy with hy | hy
      · exact .inl ((HY.out y).2 (.inl hy))
      · exact HYN.out y hy
  · have hs56 := hf6.size
    obtain ⟨b', hb'⟩ : ∃ b', b' = b + (R.2 - b - bf) := ⟨_, rfl⟩
    have hbf : R.2 - b' = bf := by omega
    have hn6 : (inp ++ text).length - b' = n + nt - (R.2 - b - bf) := by rw [hlen]; omega
    have OW6 := own_lt ho6
    rw [List.drop_drop, ← hb'] at ho6
    refine ⟨_, results_tmp2 rfl _ _ _, A5, c5, (fun y => y = g ∨ (Value.slice A6 (n + nt - (R.2 - b - bf)) c6).ownBlock = some y), by rw [HM.out]; rfl, by rw [HM.out]; exact HC5.out.1, HC5.out.2, ?_, ⟨A6, Ar, c6, cr, n + nt - (R.2 - b - bf), b', B1, by rw [hbf]; exact hg6, ?_, ?_, HCR.out, ⟨h5, h6, by omega⟩, .inr (by omega), by omega, by rw [hlen]; omega, hn6, h12, ?_, fun _ => Iff.rfl⟩, HB5.out.trans (hf6.below h5), ?_, ?_⟩
    · refine Row.more (B := w5.heap.size) (HRES.out.era_keep (fun x hx hE => hf6.2 x hx (fun e => hE (by omega))) (fun x hx h => ?_)) hs56
      rcases h with h | h | h
      · omega
      · omega
      · have := (OW6 x h).1
        omega
    · exact own_less ho6 (by omega)
    · exact HR5.out.era_keep (fun x hx hE => hf6.2 x (by omega) (fun e => hE (.inl (by omega)))) (fun _ _ h => h)
    · intro x hx h
      have h1 := (OW6 x hx).1
      have := hX x h
      omega
    · intro y hy
      rcases hy with hy | hy
      · exact .inl ((HY.out y).2 (.inl hy))
      · exact .inr (by have := (OW6 y hy).1; omega)
    · intro x hx hy
      exact (hf6.2 x (by omega) (fun e => hy ((HY.out x).2 (.inl e)))).trans (HK5.out x hx hy)
end Go.Proofs.Ytjohoohdjlajcaa
namespace Go.Proofs.Ytjohoohdjlajcaa
open Go.RowKit Go.UtYtjohoohdjlajcaa
attribute [local go_sem high] cut_l cut_lh cutA_zero
/-- closed: 15 -/
def RetShut (w : World) (e : Ending) (w' : World) : Prop := e = .returned (.tuple #[.slice none 0 0, .int .i64 15]) ∧ Below w.heap.size w w'
set_option maxRecDepth 100000 in
theorem write_shut (g : Nat) (cs : Array Value) (At : Option Addr) (nt ct : Nat) (w : World) (hG : Blk w g 53 cs) (h : cs[5]? = some (.bool false)) :
    Calls Try.prog 14 #[.pointer (some ⟨g, 0, none⟩), .slice At nt ct] w (RetShut w) := by
  have e5 := (hG.cell 5).trans h
  have hlt := hG.lt
  clear hG h
  go_enter_defers Try.func14, Try.ntmps14
  go_wp2
  exact ⟨_, results_tmp2 rfl _ _ _, rfl, Below.refl _ _⟩
set_option maxRecDepth 100000 in
theorem write_nil (At : Option Addr) (nt ct : Nat) (w : World) :
    Calls Try.prog 14 #[.pointer none, .slice At nt ct] w (RetShut w) := by
  go_enter_defers Try.func14, Try.ntmps14
  go_wp2
  exact ⟨_, results_tmp2 rfl _ _ _, rfl, Below.refl _ _⟩
set_option maxRecDepth 100000 in
theorem close_shut (g : Nat) (cs : Array Value) (w : World) (hG : Blk w g 53 cs) (h : cs[5]? = some (.bool false)) :
    Calls Try.prog 15 #[.pointer (some ⟨g, 0, none⟩)] w (RetShut w) := by
  have e5 := (hG.cell 5).trans h
  have hlt := hG.lt
  clear hG h
  go_enter_defers Try.func15, Try.ntmps15
  go_wp2
  exact ⟨_, results_tmp2 rfl _ _ _, rfl, (Below.refl _ _).alloc (Nat.le_refl _) _⟩
set_option maxRecDepth 100000 in
theorem close_nil (w : World) : Calls Try.prog 15 #[.pointer none] w (RetShut w) := by
  go_enter_defers Try.func15, Try.ntmps15
  go_wp2
  exact ⟨_, results_tmp2 rfl _ _ _, rfl, (Below.refl _ _).alloc (Nat.le_refl _) _⟩
set_option maxRecDepth 100000 in
theorem pend_shut (g : Nat) (cs : Array Value) (w : World) (hG : Blk w g 53 cs) (h : cs[5]? = some (.bool false)) :
    Calls Try.prog 20 #[.pointer (some ⟨g, 0, none⟩)] w fun e w' => e = .returned (.slice none 0 0) ∧ Below w.heap.size w w' := by
  have e5 := (hG.cell 5).trans h
  have hlt := hG.lt
  clear hG h
  go_enter Try.func20, Try.ntmps20
  go_wp2
  go_ret
  exact ⟨rfl, Below.refl _ _⟩
set_option maxRecDepth 100000 in
theorem pend_nil (w : World) : Calls Try.prog 20 #[.pointer none] w fun e w' => e = .returned (.slice none 0 0) ∧ Below w.heap.size w w' := by
  go_enter Try.func20, Try.ntmps20
  go_wp2
  go_ret
  exact ⟨rfl, Below.refl _ _⟩
set_option maxRecDepth 100000 in
set_option maxHeartbeats 1000000 in
theorem pend_any (Y X : Nat → Prop) (B g : Nat) (D : List TR) (bf ah : Nat) (inp : List Int) (p : Nat) (w : World) (hS : StrAt w Y X B g D bf ah inp p) (hl : inp.length ≤ 100000) (r : List Int) (hr : inp.drop p = r) :
    Calls Try.prog 20 #[.pointer (some ⟨g, 0, none⟩)] w fun e w' => ∃ A' c', e = .returned (.slice A' r.length c') ∧ w'.ownsRow w.heap.size 3 1 (.slice A' r.length c') r.length (ints r) ∧ Below w.heap.size w w' := by
  obtain ⟨A, Ar, c, cr, n, b, B1, h1, h2, h3, h4, ⟨h5, h6, h7⟩, h8, h9, h10, h11, h12, h13, h14⟩ := hS
  obtain ⟨q, hq⟩ : ∃ q, q = p - b := ⟨_, rfl⟩
  rw [← hq] at h1
  obtain ⟨hro, hc1, hc2⟩ := ow_row h2
  have HREST := Lib.hid (rest_any g A n c q _ w h1 rfl rfl (by omega) hc1)
  have hdr : (inp.drop b).length = n := by rw [List.length_drop]; exact h11
  have hrow : Row w w.heap.size (cutA A c q 1) (ints ((inp.drop b).drop q)) := hro.tail (by rw [hdr]; exact hc1)
  rw [List.drop_drop, show b + q = p by omega, hr] at hrow
  have hrl : r.length = n - q := by rw [← hr, List.length_drop]; omega
  have HROW := Lib.hid hrow
  have HCL := fun k => clone_int (cutA A c q 1) (n - q) (c - q) (ints r) (w.drewN k) (HROW.out.drewN k) (by rw [ints_len, hrl, Nat.mul_one]) (ints_one _) (by omega)
  rw [hrl]
  unfold RetCl at HCL
  replace HCL := Lib.hid HCL
  obtain ⟨e0, e1, e2, e3, e4, e5⟩ := str6 h1
  have hlt := h1.lt
  clear h1 h2 h3 h4 h8 h12 h13 h14 hro hrow hrl hdr hr hq
  go_enter Try.func20, Try.ntmps20
  go_wp2_with fail
  refine HREST.out.mono ?_
  rintro e w' ⟨rfl, k, rfl⟩
  go_wp2_with fail
  refine (HCL.out k).mono ?_
  rintro e w3 ⟨A3, c3, rfl, ho3, hb3⟩
  have HO3 := Lib.hid ho3
  have HB3 : Hid (Below w.heap.size w w3) := (below_drewN (Below.refl _ _) k).trans hb3
  clear ho3 hb3
  go_wp2
  go_ret
  exact ⟨A3, c3, rfl, HO3.out, HB3.out⟩
set_option maxRecDepth 100000 in
set_option maxHeartbeats 1000000 in
theorem shut_d (g bx : Nat) (A : Option Addr) (n c q : Nat) (Ar : Option Addr) (nr cr bf ah : Nat) (op : Bool) (t : TypeId) (u : FrameMode) (w : World) (hG : Blk w g 53 (strC A n c q Ar nr cr bf ah op)) (hB : Blk w bx t #[.pointer (some ⟨g, 0, none⟩)]) :
    CallsD Try.prog 32 #[.pointer (some ⟨bx, 0, none⟩)] u w fun e u' w' => u' = u ∧ (e = .returned (.tuple #[]) ∧ Blk w' g 53 (strC none 0 0 0 none 0 0 0 0 false) ∧ Fr w w' g) := by
  obtain ⟨e0, e1, e2, e3, e4, e5⟩ := str6 hG
  have hlt := hG.lt
  have f0 := hG.free 0
  have f1 := hG.free 1
  have f2 := hG.free 2
  have f3 := hG.free 3
  have f4 := hG.free 4
  have f5 := hG.free 5
  have b0 := hB.cell 0
  have hlb := hB.lt
  simp at b0
  have HG := Lib.hid hG
  clear hG hB
  go_enter_d Try.func32, Try.ntmps32
  go_wp2
  go_end0
  refine ⟨rfl, ?_, ?_⟩
  · exact (((((HG.out.set_ 0 _).set_ 1 _).set_ 2 _).set_ 3 _).set_ 4 _).set_ 5 _
  · exact ((((((Fr.refl w g).set 0 _).set 1 _).set 2 _).set 3 _).set 4 _).set 5 _
/-- the call returns what the last steps write; the stream is closed -/
def RetC (w : World) (B g : Nat) (R : List Int) (e : Ending) (w' : World) : Prop :=
  ∃ (A' : Option Addr) (c' : Nat), e = .returned (.tuple #[.slice A' R.length c', .int .i64 0]) ∧ R.length ≤ c' ∧ c' ≤ maxLen ∧ Row (era w' (· < w.heap.size)) w'.heap.size A' (ints R) ∧ Blk w' g 53 (strC none 0 0 0 none 0 0 0 0 false) ∧ Below B w w' ∧ Fr w w' g
set_option maxRecDepth 100000 in
set_option maxHeartbeats 2000000 in
theorem close_any (Y X : Nat → Prop) (B g : Nat) (D : List TR) (bf ah : Nat) (inp : List Int) (p : Nat) (w : World) (hS : StrAt w Y X B g D bf ah inp p) (hD : okD D bf ah) (hl : inp.length ≤ 10000) (R : List Int) (hRes : outR D inp p = R) :
    Calls Try.prog 15 #[.pointer (some ⟨g, 0, none⟩)] w (RetC w B g R) := by
  obtain ⟨A, Ar, c, cr, n, b, B1, h1, h2, h3, h4, ⟨h5, h6, h7⟩, h8, h9, h10, h11, h12, h13, h14⟩ := hS
  obtain ⟨d1, d2, d3, d4, d5, d6⟩ := hD
  have HMO := Lib.hid (data_mat D)
  have HFI := Lib.hid (data_fit D)
  rw [d1] at HMO HFI
  obtain ⟨q, hq⟩ : ∃ q, q = p - b := ⟨_, rfl⟩
  rw [← hq] at h1
  have hdr : (inp.drop b).length = n := by rw [List.length_drop]; exact h11
  obtain ⟨z, hz⟩ : ∃ z, (stS D inp 1 p).2 - b = z := ⟨_, rfl⟩
  have hst : stS D (inp.drop b) 1 q = (R, z) := by
    have := stS_drop (h := 1) (inp := inp) HMO.out HFI.out (Nat.le_refl _) (b := b) (bf := bf) (by omega) d3 p h10 h8
    rw [← hq, (stS_one HMO.out p h10).1, hRes, hz] at this
    exact this
  obtain ⟨w1, hw1, HB1, HK1⟩ : ∃ v, v = w.alloc (.cells #[.pointer (some ⟨g, 0, none⟩)] 27) ∧ Hid (Below w.heap.size w v) ∧ Hid (Blk v w.heap.size 27 #[.pointer (some ⟨g, 0, none⟩)]) := ⟨_, rfl, (Below.refl _ _).alloc (Nat.le_refl _) _, Blk.new _ _ _⟩
  have HG1 := Lib.hid (h1.after HB1.out)
  have ho1 := ow_below h2 HB1.out
  obtain ⟨hro, hc1, hc2⟩ := ow_row ho1
  have hs1 := HB1.out.size
  have HIT : Hid (Row (era w1 (· = g)) w1.heap.size A (ints (inp.drop b))) := hro.era_new (own_new ho1) (fun x (h : x = g) => by omega)
  have HRG : Hid (RulesAt (era w1 (· = g)) w1.heap.size Ar D) := (h3.era_keep (fun x hx _ => HB1.out.block x (by omega)) (fun x _ (h : x = g) => .inl (by omega))).more (by omega)
  have HSTEPS := steps_any g A n c q Ar D.length cr bf ah true 1 D (inp.drop b) w1 HG1.out HIT.out hdr hc1 hc2 HRG.out rfl h4.1 h4.2 d2 d1 (by omega) (by omega) (Nat.le_refl _) (by omega) (R, z) hst
  unfold RetSteps at HSTEPS
  simp only at HSTEPS
  obtain ⟨m, hm⟩ : ∃ m, R.length = m := ⟨_, rfl⟩
  have HM := Lib.hid hm
  rw [hm] at HSTEPS
  simp only [Int.natCast_one] at HSTEPS
  replace HSTEPS := Lib.hid HSTEPS
  obtain ⟨e0, e1, e2, e3, e4, e5⟩ := str6 h1
  have hgw : g < w.heap.size := h1.lt
  have hmf : ∀ (fn : Fn) (first cap : Array Value) (w : World), (Instr.makeFunc fn first cap).run Try.prog w = .ok (.func fn first cap) w := fun _ _ _ _ => rfl
  clear h1 h2 h3 h4 h8 h13 h14 ho1 hro hdr hst hz hq hm d1 d2 d3
  go_enter_defers Try.func15, Try.ntmps15
  go_wp2_with fail
  rw [← hw1]
  refine HSTEPS.out.mono ?_
  rintro e w5 ⟨A5, c5, rfl, ho5, hg5, hf5⟩
  have hs5 := hf5.size
  have HK5 : Hid (Blk w5 w.heap.size 27 #[.pointer (some ⟨g, 0, none⟩)]) := (hf5.2 w.heap.size HK1.out.lt (by omega)).trans HK1.out
  have HF5 : Hid (Fr w w5 g) := ⟨(HB1.out.mono (by omega)).trans hf5.1, fun x hx hg => (hf5.2 x (by omega) hg).trans (HB1.out.block x hx)⟩
  obtain ⟨hro5, hc51, hc52⟩ := ow_row ho5
  have HRES : Hid (Row (era w5 (· < w1.heap.size)) w5.heap.size A5 (ints R)) := hro5.era_new (own_new ho5) (fun _ h => h)
  have HC5 := Lib.hid (And.intro hc51 hc52)
  have HG5 := Lib.hid hg5
  clear ho5 hg5 hf5 hro5 hc51 hc52 hw1
  go_wp2
  refine leaves_cons (f := 32) (args := #[.pointer (some ⟨w.heap.size, 0, none⟩)]) (by simp) (by simp [go_sem]) ?_
  refine (shut_d g w.heap.size A n c z Ar D.length cr bf ah true _ .returning w5 HG5.out HK5.out).mono ?_
  rintro e u' w6 ⟨rfl, rfl, hg6, hf6⟩
  have hs6 := hf6.size
  have HF6 : Fr w w6 g := ⟨HF5.out.1.trans hf6.1, fun x hx hg => (hf6.2 x (by omega) hg).trans (HF5.out.2 x hx hg)⟩
  refine ⟨_, results_tmp2 rfl _ _ _, A5, c5, by rw [HM.out]; rfl, by rw [HM.out]; exact HC5.out.1, HC5.out.2, ?_, hg6, HF6.below h5, HF6⟩
  exact Row.more (B := w5.heap.size) (HRES.out.era_keep (fun x hx hE => hf6.2 x hx (fun e => hE (by omega))) (fun x _ h => by omega)) hs6
end Go.Proofs.Ytjohoohdjlajcaa
