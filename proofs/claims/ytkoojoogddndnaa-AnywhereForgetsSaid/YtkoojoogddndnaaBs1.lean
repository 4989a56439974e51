/-
  segment.parts as an iterator; slices.Collect of it; segment.Parts.
-/
import Derived.RangeFuncNested
import Derived.RangeFuncBound
import Derived.RangeFuncCalls
import Derived.RangeFuncLeaves
import Derived.Shelf.Abstract
import Derived.Shelf.RegionOpen
import Derived.OwnWalkIn
import Derived.TacticsInMore
import Derived.LoopNIn
import Derived.LoopIn
import Derived.Test.YtkoojoogddndnaaBq4
import Derived.Test.YtkoojoogddndnaaBs0
namespace Go.Proofs.Ytkoojoogddndnaa
open Go.RowKit Go.Shelf Go.UtYtkoojoogddndnaa
attribute [local go_sem] Oper.semAt_some
def rng (l : List (Int × Int)) : List Value := l.flatMap fun s => [.int .i64 s.1, .int .i64 s.2]
theorem rng_len : ∀ l : List (Int × Int), (rng l).length = l.length * 2
  | [] => rfl
  | s :: l => by
    have := rng_len l
    simp [rng] at this ⊢
    omega
theorem rng_snoc (l : List (Int × Int)) (a b : Int) : rng (l ++ [(a, b)]) = rng l ++ [.int .i64 a, .int .i64 b] := by simp [rng]
theorem two_one (a b : Int) : ∀ u ∈ [Value.int .i64 a, .int .i64 b], u.oneCell' = true := by
  intro u hu
  simp at hu
  rcases hu with rfl | rfl <;> rfl
theorem rng_info : (Try.prog.info? 46).map (fun i => (i.zero, i.size, i.bytes)) = some (some (.agg #[.int .i64 0, .int .i64 0]), 2, 16) := by kernel_rfl
/-- The call returns a slice that reads as ranges; nothing older has changed. -/
def RetR (w : World) (l : List (Int × Int)) (e : Ending) (w' : World) : Prop :=
  ∃ A c, e = .returned (.slice A l.length c) ∧ l.length ≤ c ∧ c ≤ maxLen ∧ Row w' w'.heap.size A (rng l) ∧ Below w.heap.size w w'
def encP (x : Int × Int) : Array Value := #[.agg #[.int .i64 x.1, .int .i64 x.2]]
/-- What a round keeps: whatever lay below B. -/
def KpB (B : Nat) (W W' : World) : Prop := W.heap.size ≤ W'.heap.size ∧ ∀ b, b < B → W'.heap[b]? = W.heap[b]?
theorem KpB.trans {B : Nat} {X Y Z : World} (h : KpB B X Y) (k : KpB B Y Z) : KpB B X Z := ⟨Nat.le_trans h.1 k.1, fun b hb => (k.2 b hb).trans (h.2 b hb)⟩
theorem KpB.refl (B : Nat) (X : World) : KpB B X X := ⟨Nat.le_refl _, fun _ _ => rfl⟩
theorem KpB.book {B : Nat} {w : World} (hw : B ≤ w.heap.size) (W : World) (l : Nat) (o o' : Obj) (hl : w.heap.size ≤ l) (_ : W.heap[l]? = some o) (_ : o.isCells = false) (_ : o.isWalk = false) : KpB B W (W.putObj l o') :=
  ⟨(grownBy_putObj' W l o').size, fun b hb => World.putObj_heap_other (by omega)⟩
theorem KpB.below {B : Nat} {W W' : World} (h : Below B W W') : KpB B W W' := ⟨h.size, h.block⟩
theorem KpB.row {B : Nat} {W W' : World} {A : Option Addr} {vs : List Value} (h : KpB B W W') (hr : Row W B A vs) : Row W' B A vs :=
  hr.keep fun p hp => World.cell?_of_block (h.2 p.block hp)
theorem KpB.blk {B g t : Nat} {W W' : World} {cs : Array Value} (h : KpB B W W') (hg : g < B) (hb : Blk W g t cs) : Blk W' g t cs := (h.2 g hg).trans hb
set_option maxRecDepth 100000 in
set_option maxHeartbeats 1000000 in
theorem parts1_in (n l Bn B : Nat) (A : Option Addr) (N c : Nat) (acts : List Int) (J Jx : List (Int × Int) → World → Prop) (W : World) (_hJ : AbidesFrom W.heap.size J)
    (hY : ∀ pre x W1, J pre W1 → pre.length < 100001 → YieldAt Fence.wide (n - 1) Try.prog l (encP x) W1 fun e W' =>
      (e = .returned (.bool true) ∧ J (pre ++ [x]) W' ∧ KpB B W1 W') ∨ (e = .returned (.bool false) ∧ Jx (pre ++ [x]) W'))
    (hBn : Blk W Bn 23 #[.slice A N c]) (hBB : Bn < B) (hB : B ≤ W.heap.size) (hR : Row W B A (ints acts)) (hn : acts.length = N) (hm : N ≤ 100000) (h0 : J [] W) :
    CallsIn Fence.wide n Try.prog 78 #[.func (.yield l) #[] #[], .pointer (some ⟨Bn, 0, none⟩)] W fun e W' => (∃ v, e = .returned v) ∧
      ((∃ xs, xs = prtL acts ∧ J xs W') ∨ (∃ pre, True ∧ Jx pre W')) := by
  have HR := Lib.hid hR
  have HY := Lib.hid hY
  have H0 := Lib.hid h0
  have HN := Lib.hid hn
  have HBN := Lib.hid hBn
  have q0 := hBn.cell 0
  have ql := hBn.lt
  simp at q0
  clear hR hY h0 hn hBn _hJ
  refine callsIn_of_wp Try.func78 rfl trivial ?_ rfl
  simp only [Try.ntmps78, List.size_toArray, List.length_cons, List.length_nil, Nat.reduceAdd, Nat.reduceSub, Array.replicate_succ, Array.replicate_zero, List.push_toArray, List.append_toArray, List.nil_append, List.cons_append]
  gi_wp2
  gi_loopw [3, 8] (fun lo i wr => ∃ (k : Nat) (lo0 : Nat) (pre : List (Int × Int)), k ≤ N ∧ i = .int .i64 (k : Int) ∧ lo = .int .i64 (lo0 : Int) ∧ Hid (prtN (N - 1) acts k = (pre, lo0)) ∧ Hid (J pre wr) ∧ Hid (KpB B W wr)) (fun _ i _ => N - (intOf i).toNat)
  case atStart => exact ⟨0, 0, [], by omega, rfl, rfl, rfl, H0, KpB.refl _ _⟩
  case round =>
    obtain ⟨k, lo, pre, hk, rfl, rfl, HP, HJ, HK⟩ := hrel
    have hsz := HK.out.1
    have q0' := (HK.out.blk hBB HBN.out).cell 0
    simp at q0'
    by_cases h1 : k < N
    · obtain ⟨b, o, a, rfl, hb, hx, cc⟩ := (HK.out.row HR.out).at_int (k := k) (by rw [HN.out]; exact h1)
      have hbl : b < wr.heap.size := by omega
      have hga : Hid (acts.getD k 0 = a) := Lib.hid (by rw [List.getD_eq_getElem?_getD, hx.out]; rfl)
      have HLO : Hid (lo ≤ k) := Lib.hid (by have := prtN_lo (N - 1) acts k; rw [HP.out] at this; exact this.1)
      have HPL : Hid (pre.length ≤ k) := Lib.hid (by have := prtN_len (N - 1) acts k; rw [HP.out] at this; exact this)
      have HST : Hid (prtN (N - 1) acts (k + 1) = if k = lo ∨ (a = 1 ∧ k < N - 1) then (pre, lo) else (pre ++ [((lo : Int), (k : Int))], k)) := Lib.hid (by
        rw [show prtN (N - 1) acts (k + 1) = (if k = (prtN (N - 1) acts k).2 ∨ (acts.getD k 0 = 1 ∧ k < N - 1) then prtN (N - 1) acts k else ((prtN (N - 1) acts k).1 ++ [(((prtN (N - 1) acts k).2 : Int), (k : Int))], k)) from rfl]
        rw [HP.out, hga.out])
      have hlk : lo ≤ k := HLO.out
      by_cases g1 : k = lo
      · subst g1
        have HST' : Hid (prtN (N - 1) acts (k + 1) = (pre, k)) := Lib.hid (by rw [HST.out, if_pos (.inl rfl)])
        gi_wp2
        all_goals try exact absurd ‹some undef = some (Value.bool _)› (by intro h; cases h)
        go_roundw
        case rel => exact ⟨k + 1, k, pre, by omega, by go_num, rfl, HST', HJ, HK⟩
        case measure => simp [intOf] <;> omega
      · have e1 : ((k : Int) == (lo : Int)) = false := by simp; omega
        by_cases g2 : a = 1 ∧ k < N - 1
        · obtain ⟨rfl, g2⟩ := g2
          have e2 : decide ((k : Int) < (N : Int) - 1) = true := decide_eq_true (by omega)
          have g2' : (k : Int) < (N : Int) - 1 := by omega
          have HST' : Hid (prtN (N - 1) acts (k + 1) = (pre, lo)) := Lib.hid (by rw [HST.out, if_pos (.inr ⟨rfl, g2⟩)])
          gi_wp2
          go_roundw
          case rel => exact ⟨k + 1, lo, pre, by omega, by go_num, rfl, HST', HJ, HK⟩
          case measure => simp [intOf] <;> omega
        · have HST' : Hid (prtN (N - 1) acts (k + 1) = (pre ++ [((lo : Int), (k : Int))], k)) := Lib.hid (by rw [HST.out, if_neg (by rintro (h | h); exact g1 h; exact g2 h)])
          obtain ⟨fn, tmps, assign, body, hy, hRR⟩ := HY.out pre ((lo : Int), (k : Int)) _ HJ.out (by have := HPL.out; omega)
          simp only [encP] at hy
          by_cases g3 : a = 1
          · subst g3
            have g4 : ¬ k < N - 1 := fun h => g2 ⟨rfl, h⟩
            have e2 : decide ((k : Int) < (N : Int) - 1) = false := decide_eq_false (by omega)
            have g2' : ¬ (k : Int) < (N : Int) - 1 := by omega
            gi_wp2
            refine ⟨(fun h => by cases h), ?_⟩
            refine hRR.mono ?_
            rintro e W3 (⟨rfl, hJ3, hk3⟩ | ⟨rfl, hJx3⟩)
            · have HJ3 := Lib.hid hJ3
              have HK3 := Lib.hid (HK.out.trans hk3)
              clear hJ3 hk3
              gi_wp2
              go_roundw
              case rel => exact ⟨k + 1, k, _, by omega, by go_num, rfl, HST', HJ3, HK3⟩
              case measure => simp [intOf] <;> omega
            · have HJx := Lib.hid hJx3
              clear hJx3
              gi_wp2
              refine bodyPost_ret (results_none rfl _ _ _) rfl ?_
              exact ⟨⟨_, rfl⟩, .inr ⟨_, trivial, HJx.out⟩⟩
          · have e3 : (a == 1) = false := by simpa using g3
            gi_wp2
            refine ⟨(fun h => by cases h), ?_⟩
            refine hRR.mono ?_
            rintro e W3 (⟨rfl, hJ3, hk3⟩ | ⟨rfl, hJx3⟩)
            · have HJ3 := Lib.hid hJ3
              have HK3 := Lib.hid (HK.out.trans hk3)
              clear hJ3 hk3
              gi_wp2
              go_roundw
              case rel => exact ⟨k + 1, k, _, by omega, by go_num, rfl, HST', HJ3, HK3⟩
              case measure => simp [intOf] <;> omega
            · have HJx := Lib.hid hJx3
              clear hJx3
              gi_wp2
              refine bodyPost_ret (results_none rfl _ _ _) rfl ?_
              exact ⟨⟨_, rfl⟩, .inr ⟨_, trivial, HJx.out⟩⟩
    · obtain rfl : k = N := by omega
      have HF : Hid (pre = prtL acts) := Lib.hid (by unfold prtL; rw [HN.out, HP.out])
      gi_wp2
      go_end0
      exact ⟨⟨_, rfl⟩, .inl ⟨pre, HF.out, HJ.out⟩⟩
theorem parts_stops (n Bn : Nat) (A : Option Addr) (c N : Nat) (acts : List Int) (w : World) (hBn : Blk w Bn 23 #[.slice A N c]) (hR : Row w w.heap.size A (ints acts)) (hn : acts.length = N) (hm : N ≤ 100000) :
    SeqStopsK Fence.wide n Try.prog 78 #[.pointer (some ⟨Bn, 0, none⟩)] encP (KpB w.heap.size) (fun xs => xs = prtL acts) (fun _ => True) 100001 w := fun l J Jx W hW hJ _ hY h0 =>
  parts1_in n l Bn w.heap.size A N c acts J Jx W hJ hY (hBn.after hW) hBn.lt hW.size (hR.below hW) hn hm h0
theorem cells_kept' {X Y : World} {B : Nat} {row : Option Nat} {g : Nat} {cs : Array Value} {t : TypeId} {fr : Nat × Nat} (h : X.heap[g]? = some (.cells cs t fr)) (hg : X.grownBy Y row) (hr : ∀ r, row = some r → B ≤ r ∧ ∃ o : Obj, X.heap[r]? = some o ∧ o.isCells = false) : Y.heap[g]? = some (.cells cs t fr) := by
  refine (hg.block g (Array.getElem?_eq_some_iff.1 h).1 (fun e => ?_)).trans h
  obtain ⟨_, o, ho, hc⟩ := hr g e.symm
  rw [h] at ho
  cases ho
  cases hc
theorem ow_putObj {W : World} {base e size n D : Nat} {v : Value} {xs : List Value} {o : Obj} (h : W.ownsRow base e size v n xs) (hD : W.heap[D]? = some o) (hc : o.isCells = false) (o' : Obj) : (W.putObj D o').ownsRow base e size v n xs := by
  refine ⟨h.1, ?_⟩
  rcases h.2 with h' | ⟨g, cap, cur, hv, hb, hh, h'⟩
  · exact .inl h'
  · refine .inr ⟨g, cap, cur, hv, hb, (World.putObj_heap_other (fun e => ?_)).trans hh, h'⟩
    subst e
    rw [hh] at hD
    cases hD
    cases hc
/-- the slice so far, in its box -/
def ApAt (w0 : World) (Bs : Nat) (pre : List (Int × Int)) (W : World) : Prop := ∃ (A : Option Addr) (c : Nat), Boxed W Bs 70 (.slice A pre.length c) ∧ W.ownsRow (w0.heap.size + 1) 46 2 (.slice A pre.length c) pre.length (rng pre)
theorem ap_own (w0 : World) (Bs B : Nat) : OwnFrom B (ApAt w0 Bs) := by
  rintro s X Y row ⟨A, c, h1, h2⟩ hg hr
  refine ⟨A, c, cells_kept' h1 hg hr, h2.1, ?_⟩
  rcases h2.2 with h' | ⟨g, cap, cur, hv, hb, hh, h'⟩
  · exact .inl h'
  · exact .inr ⟨g, cap, cur, hv, hb, cells_kept' hh hg hr, h'⟩
set_option maxRecDepth 100000 in
set_option maxHeartbeats 1000000 in
theorem appendSeq_any (Bn : Nat) (A : Option Addr) (N c : Nat) (acts : List Int) (w : World) (hBn : Blk w Bn 23 #[.slice A N c]) (hR : Row w w.heap.size A (ints acts)) (hn : acts.length = N) (hm : N ≤ 100000) :
    Calls Try.prog 77 #[.slice none 0 0, .func (.func 78) #[] #[.pointer (some ⟨Bn, 0, none⟩)]] w (RetR w (prtL acts)) := by
  obtain ⟨i0, hi0, hz0, hz1, hz2⟩ := info_parts rng_info
  refine (callsIn_wide (n := 3)).1 ?_
  refine callsIn_of_wp_marks Try.func77 rfl trivial ?_ rfl
  simp only [Try.ntmps77, List.size_toArray, List.length_cons, List.length_nil, Nat.reduceAdd, Nat.reduceSub, Array.replicate_succ, Array.replicate_zero, List.push_toArray, List.append_toArray, List.nil_append, List.cons_append]
  gi_wp2
  have hB0 : Below w.heap.size w (w.alloc (.cells #[.slice none 0 0] 70)) := (Below.refl _ w).alloc (Nat.le_refl _) _
  have bS := Boxed.new w 70 (.slice none 0 0)
  have hsz : (w.alloc (.cells #[.slice none 0 0] 70)).heap.size = w.heap.size + 1 := by simp
  obtain ⟨W0, hW0⟩ : ∃ W0, w.alloc (.cells #[.slice none 0 0] 70) = W0 := ⟨_, rfl⟩
  rw [hW0] at bS hB0 hsz ⊢
  clear hW0
  refine wpIn_rangeFunc_ownH rfl (by omega) (gf := 78) (lb := #[.pointer (some ⟨Bn, 0, none⟩)]) rfl trivial (enters_of Try.func78 (by kernel_rfl) rfl)
    (parts_stops _ Bn A c N acts w hBn hR hn hm) KpB.trans (KpB.book (by omega)) hB0 (fun _ => rfl)
    (fun pre W => ApAt w w.heap.size pre W ∧ Below w.heap.size w W)
    (fun _ _ _ => False)
    (OwnFrom.and (ap_own w w.heap.size _) (ownFrom_below (Nat.le_refl _) (by omega)))
    (fun _ _ _ _ _ hs _ _ => hs)
    ⟨⟨none, 0, bS, own_nil _⟩, hB0⟩
    (fun x a' W => ∃ Bx, w.heap.size < Bx ∧ W.heap[Bx]? = some (.cells #[.int .i64 x.1, .int .i64 x.2] 46 (0, 0)) ∧ a' = { tmps := #[.slice none 0 0, .func (.func 78) #[] #[.pointer (some ⟨Bn, 0, none⟩)], .pointer (some ⟨w.heap.size, 0, none⟩), undef, .slice none 0 0, .pointer (some ⟨Bx, 0, none⟩), .func (.func 78) #[] #[.pointer (some ⟨Bn, 0, none⟩)], .agg #[.int .i64 x.1, .int .i64 x.2], undef, undef, undef, undef, undef], defers := [] })
    (fun x a' _ X Y row hs hg hr => by obtain ⟨Bx, h1, h2, h3⟩ := hs; exact ⟨Bx, h1, cells_kept' h2 hg hr, h3⟩)
    ?assign ?body ?done ?stop
  case assign =>
    rintro l pre x W K ⟨⟨A1, c1, bS1, ho1⟩, hB1⟩ hK
    have HK := Lib.hid hK
    clear hK
    simp only [encP]
    gi_wp2
    exact HK.out _ _ ((KeepsOthers.alloc _ _).from _) (KpB.below ((Below.refl _ W).alloc hB1.size _)) ⟨⟨A1, c1, bS1.alloc _, ow_alloc ho1 _⟩, hB1.alloc hB1.size _⟩ ⟨W.heap.size, by have := bS1.lt; omega, World.alloc_heap_new W _, rfl⟩
  case body =>
    rintro l pre x a' W hl hrec ⟨⟨A1, c1, bS1, ho1⟩, hB1⟩ ⟨Bx, hBx, hX, rfl⟩ hlt
    have HO := Lib.hid ho1
    have HB1 := Lib.hid hB1
    have hbs := hB1.size
    have hbl := bS1.lt
    have e1 := bS1.cell
    have f1 := bS1.frozen
    have e2 : W.cell? ⟨Bx, 0, none⟩ = some (.int .i64 x.1) := (show Blk W Bx _ _ from hX).cell 0
    have e3 : W.cell? ⟨Bx, 1, none⟩ = some (.int .i64 x.2) := (show Blk W Bx _ _ from hX).cell 1
    gi_wp2_with (first
      | (gi_at_builtin
         refine wpListIn_append_own _ rfl _ _ 70 rfl (w.heap.size + 1) 46 i0 _ 2 16 Try.underlying70 hi0 hz0 hz1 hz2 rfl (by decide) _ _ _ rfl (ow_alloc HO.out _) ⟨W.heap.size, 0, none⟩ 1 1 [.int .i64 x.1, .int .i64 x.2] rfl rfl (row_at _ (row_lit W _ _) _ rfl) (two_one _ _) (by simp only [maxLen]; omega) (by omega) (by simp; omega) ?_
         intro v' w3 hown' hg3 hnil3
         obtain ⟨A3, c3, rfl⟩ := ow_slice (m := pre.length + 1) hown' rfl
         rw [← rng_snoc] at hown'
         have HO3 := Lib.hid hown'
         have bS3 : Boxed w3 w.heap.size 70 (.slice A1 pre.length c1) := bk_grown (show Blk _ _ _ _ from bS1.alloc _) hg3 (fun e => by have := own_base HO.out _ e.symm; omega)
         have HB3 : Hid (Below w.heap.size w w3) := (HB1.out.alloc hbs _).grown hg3 (by simp; omega) (fun g hg => Nat.le_of_succ_le (own_base HO.out g hg))
         have HG3 : Hid ((W.alloc (.cells #[.int .i64 x.1, .int .i64 x.2] 46)).grownBy w3 (Value.slice A1 pre.length c1).ownBlock) := hg3
         have f3 := bS3.frozen
         have e4 := bS3.cell
         clear hown' hg3 hnil3)
      | fail)
    have hbl3 := bS3.lt
    have KO3 : KeepsOthers W w3 := (KeepsOthers.alloc _ _).trans (KeepsOthers.of_grownBy HG3.out (fun j o hj ho => by
      obtain ⟨h1, h2⟩ := (ow_alloc HO.out (.cells #[.int .i64 x.1, .int .i64 x.2] 46))
      rcases h2 with ⟨h2, _⟩ | ⟨g, cap, cur, h2, _, hh, _⟩
      · rw [h2] at hj; simp [Value.ownBlock] at hj
      · rw [h2] at hj
        have : g = j := by simpa [Value.ownBlock] using hj
        subst this
        rw [hh] at ho
        cases ho
        rfl))
    have KP3 : KpB w.heap.size W w3 := ⟨by have := HG3.out.size; simp at this; omega, fun b hb => (HG3.out.block b (by simp; omega) (fun e => by have := own_base HO.out _ e.symm; omega)).trans (Below.heap_alloc _ _ b (by omega))⟩
    refine ⟨(KO3.trans (KeepsOthers.setCell _ _ _)).from _, ⟨by simpa using KP3.1, fun b hb => (Below.heap_setCell _ _ _ b (by simp; omega)).trans (KP3.2 b hb)⟩, ⟨A3, c3, ?_, ?_⟩, HB3.out.setCell (p := ⟨w.heap.size, 0, none⟩) (Nat.le_refl _) _⟩
    · rw [List.length_append]
      exact bS3.set _
    · rw [List.length_append]
      exact ow_set HO3.out (by simp)
  case done =>
    rintro D ys W hD hS ⟨⟨A1, c1, bS1, ho1⟩, hB1⟩ hK
    subst hS
    have HO := Lib.hid ho1
    have e1 := bS1.cell
    gi_wp2
    refine ⟨by simp, .inl ⟨_, _, rfl, run_takeDeferred hK, ?_⟩⟩
    obtain ⟨r1, r2, r3⟩ := ow_row HO.out
    refine ⟨_, results_tmp rfl _ _ _, A1, c1, rfl, r2, r3, ?_, hB1.trans (belowK_b (w := w) (Nat.le_refl _) W D _ _ (by omega) hK rfl rfl)⟩
    exact (ow_row (ow_putObj HO.out hK rfl _)).1
  case stop =>
    rintro D cd pre W _ _ h _
    exact h.elim
theorem collect_any (Bn : Nat) (A : Option Addr) (N c : Nat) (acts : List Int) (w : World) (hBn : Blk w Bn 23 #[.slice A N c]) (hR : Row w w.heap.size A (ints acts)) (hn : acts.length = N) (hm : N ≤ 100000) :
    Calls Try.prog 59 #[.func (.func 78) #[] #[.pointer (some ⟨Bn, 0, none⟩)]] w (RetR w (prtL acts)) := by
  have C := Lib.hid (appendSeq_any Bn A N c acts w hBn hR hn hm)
  clear hBn hR hn
  go_enter Try.func59, Try.ntmps59
  go_wp2_with fail
  refine C.out.mono ?_
  rintro e w1 ⟨A1, c1, rfl, h1, h2, h3, h4⟩
  go_wp2
  go_ret
  exact ⟨A1, c1, rfl, h1, h2, h3, h4⟩
theorem partsC_any (A : Option Addr) (N c : Nat) (w : World) : Calls Try.prog 60 #[.slice A N c] w fun e w' => e = .returned (.func (.func 78) #[] #[.pointer (some ⟨w.heap.size, 0, none⟩)]) ∧ w' = w.alloc (.cells #[.slice A N c] 23) := by
  go_enter Try.func60, Try.ntmps60
  go_wp2
  go_ret
  exact ⟨rfl, rfl⟩
end Go.Proofs.Ytkoojoogddndnaa
