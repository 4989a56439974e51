/-
  ref14.Add: a walk, for any pool.
-/
import Derived.Test.YteobffcnfigilaaProg
import Derived.Test.YteobffcnfigilaaBase
import Derived.Test.YteobffcnfigilaaTree
import Derived.Test.YteobffcnfigilaaSp6
import Derived.Test.YteobffcnfigilaaSp7
import Derived.WalkKit
import Derived.KernelRfl
import Derived.Outline
import Derived.IntWalk
import Derived.Deep.DeepCutAuto
import Derived.Deep.CutBlock
namespace Go.Proofs.Yteobffcnfigilaa
open Go.RowKit Go.UtYteobffcnfigilaa
attribute [local go_sem high] cut_l cut_lh cut_lhm cutA_zero
attribute [local go_sem 500] cut_any
theorem own_keep {w w' : World} {base e size n : Nat} {v : Value} {xs : List Value} (h : w.ownsRow base e size v n xs) (hk : ∀ g, v.ownBlock = some g → w'.heap[g]? = w.heap[g]?) : w'.ownsRow base e size v n xs := by
  refine ⟨h.1, ?_⟩
  rcases h.2 with h0 | ⟨g, cap, cur, rfl, hb, hh, hr⟩
  · exact .inl h0
  · exact .inr ⟨g, cap, cur, rfl, hb, (hk g (by simp [Value.ownBlock])).trans hh, hr⟩
theorem own_lt {w : World} {base e size n : Nat} {v : Value} {xs : List Value} (h : w.ownsRow base e size v n xs) : ∀ g, v.ownBlock = some g → g < w.heap.size ∧ base ≤ g := by
  intro g hg
  rcases h.2 with ⟨rfl, _⟩ | ⟨g', cap, cur, rfl, hb, hh, hr⟩
  · simp [Value.ownBlock] at hg
  · simp [Value.ownBlock] at hg
    subst hg
    exact ⟨(Array.getElem?_eq_some_iff.1 hh).1, hb⟩
theorem own_below {w w' : World} {base e size n : Nat} {v : Value} {xs : List Value} (h : w.ownsRow base e size v n xs) (hb : Below w.heap.size w w') : w'.ownsRow base e size v n xs :=
  own_keep h fun g hg => hb.block g (own_lt h g hg).1
theorem own_set {w : World} {base e size n : Nat} {v u : Value} {xs : List Value} {p : Addr} (h : w.ownsRow base e size v n xs) (hp : p.block < base) : (w.setCell p u).ownsRow base e size v n xs :=
  own_keep h fun g hg => Below.heap_setCell w p u g (by have := (own_lt h g hg).2; omega)
theorem own_drew {w : World} {base e size n : Nat} {v : Value} {xs : List Value} (h : w.ownsRow base e size v n xs) : w.drew.ownsRow base e size v n xs := own_keep h fun _ _ => rfl
/-- what the loop asks -/
theorem agr_min {cs seq : List Int} {k n : Nat} (h : n = min seq.length (cs.length - k)) : agr cs seq k = decide ((cs.drop k).take n = seq.take n) := by
  unfold agr
  have hl : (cs.drop k).length = cs.length - k := List.length_drop
  rcases Nat.le_total seq.length (cs.length - k) with h1 | h1
  · rw [Nat.min_eq_left h1] at h
    subst h
    rw [List.take_of_length_le (l := seq) h1, List.take_length]
  · rw [Nat.min_eq_right h1] at h
    subst h
    rw [List.take_of_length_le (l := cs.drop k) (by omega), List.take_of_length_le (l := cs.drop k) (by omega)]
theorem Row.setFar {w : World} {B : Nat} {A : Option Addr} {vs : List Value} {p : Addr} (h : Row w B A vs) (hp : B ≤ p.block) (u : Value) : Row (w.setCell p u) B A vs :=
  h.keep fun q hq => World.cell?_setCell_other w p q u (by intro e; subst e; omega)
theorem requal_q (A A' : Option Addr) (n n' c c' : Nat) (xs ys : List Int) (w : World) (hx : Row w w.heap.size A (ints xs)) (hy : Row w w.heap.size A' (ints ys)) (ex : xs.length = n) (ey : ys.length = n') (lx : n ≤ maxLen) (ly : n' ≤ maxLen) (v : Bool) (hv : decide (xs = ys) = v) :
    Calls Try.prog 21 #[.slice A n c, .slice A' n' c'] w fun e w' => e = .returned (.bool v) ∧ Below w.heap.size w w' := by
  subst ex ey
  exact requal_b A A' c c' _ xs ys w hx hy lx ly v hv
theorem Blk.set1 {w : World} {g : Nat} {t : TypeId} {x y z a : Value} (h : Blk w g t #[x, y, z]) : Blk (w.setCell ⟨g, 0, none⟩ a) g t #[a, y, z] := h.set_ 0 a
theorem Blk.set2 {w : World} {g : Nat} {t : TypeId} {x y z a : Value} (h : Blk w g t #[x, y, z]) : Blk (w.setCell ⟨g, 1, none⟩ a) g t #[x, a, z] := h.set_ 1 a
theorem Blk.set3' {w : World} {g : Nat} {t : TypeId} {x y z a : Value} (h : Blk w g t #[x, y, z]) : Blk (w.setCell ⟨g, 2, none⟩ a) g t #[x, y, a] := h.set_ 2 a
theorem size1 {w : World} {p : Addr} {a : Value} : (w.setCell p a).heap.size = w.heap.size := by simp
theorem size3d {w : World} {g : Nat} {a b c : Value} : ((((w.setCell ⟨g, 0, none⟩ a).setCell ⟨g, 1, none⟩ b).setCell ⟨g, 2, none⟩ c).drew).heap.size = w.heap.size := by simp
/-- rows of integers are no part of a block that holds slices -/
theorem Row.apart1 {w : World} {B g i : Nat} {A : Option Addr} {xs : List Int} {T : TypeId} {v1 v2 v3 : Option Addr} {n1 n2 n3 d1 d2 d3 : Nat} (h : Row w B A (ints xs)) (hb : Blk w g T #[.slice v1 n1 d1, .slice v2 n2 d2, .slice v3 n3 d3]) (a : Value) :
    Row (w.setCell ⟨g, i, none⟩ a) B A (ints xs) := fun hv => by
  obtain ⟨b', o, e, hlt, hc⟩ := h hv
  have hne : b' ≠ g := fun e2 => by
    subst e2
    have hpos : 0 < (ints xs).length := List.length_pos_iff.2 hv
    obtain ⟨x, hx⟩ : ∃ x, (ints xs)[0]? = some (.int .i64 x) := by
      rw [ints_len] at hpos
      exact ⟨xs[0], by simp [ints, List.getElem?_eq_getElem hpos]⟩
    have h1 := hc 0 _ hx
    rw [hb.cell] at h1
    match o with
    | 0 => simp at h1
    | 1 => simp at h1
    | 2 => simp at h1
    | o + 3 => simp at h1
  refine ⟨b', o, e, hlt, fun k v hk => ?_⟩
  rw [World.cell?_setCell_other _ _ _ _ (by intro e2; injection e2; omega)]
  exact hc k v hk
theorem PlAt.apartB {w : World} {B g i : Nat} {A1 A2 A3 : Option Addr} {c1 c2 c3 : Nat} {p : Pl} {T : TypeId} {v1 v2 v3 : Option Addr} {n1 n2 n3 d1 d2 d3 : Nat} (h : PlAt w B A1 c1 A2 c2 A3 c3 p) (hb : Blk w g T #[.slice v1 n1 d1, .slice v2 n2 d2, .slice v3 n3 d3]) (a : Value) :
    PlAt (w.setCell ⟨g, i, none⟩ a) B A1 c1 A2 c2 A3 c3 p :=
  ⟨h.l1, h.m1, Row.apart1 h.r1 hb _, h.l2, h.m2, Row.apart1 h.r2 hb _, h.l3, h.m3, Row.apart1 h.r3 hb _⟩
theorem PlAt.apart1 {w : World} {g i : Nat} {A1 A2 A3 : Option Addr} {c1 c2 c3 : Nat} {p : Pl} {T : TypeId} {v1 v2 v3 : Option Addr} {n1 n2 n3 d1 d2 d3 : Nat} (h : PlAt w w.heap.size A1 c1 A2 c2 A3 c3 p) (hb : Blk w g T #[.slice v1 n1 d1, .slice v2 n2 d2, .slice v3 n3 d3]) (a : Value) :
    PlAt (w.setCell ⟨g, i, none⟩ a) (w.setCell ⟨g, i, none⟩ a).heap.size A1 c1 A2 c2 A3 c3 p :=
  ⟨h.l1, h.m1, by rw [show (w.setCell ⟨g, i, none⟩ a).heap.size = w.heap.size by simp]; exact Row.apart1 h.r1 hb _, h.l2, h.m2, by rw [show (w.setCell ⟨g, i, none⟩ a).heap.size = w.heap.size by simp]; exact Row.apart1 h.r2 hb _, h.l3, h.m3, by rw [show (w.setCell ⟨g, i, none⟩ a).heap.size = w.heap.size by simp]; exact Row.apart1 h.r3 hb _⟩
def AddPre (w : World) (A : Option Addr) (seq : List Int) (q : Pl) (wx : World) : Prop :=
  ∃ C cC S cS L cL, Blk wx w.heap.size 27 #[.slice C q.C.length cC, .slice S q.S.length cS, .slice L q.L.length cL] ∧ PlAt wx wx.heap.size C cC S cS L cL q ∧ Blk wx (w.heap.size + 1) 27 #[.slice none 0 0, .slice none 0 0, .slice none 0 0] ∧ Below w.heap.size w wx ∧ Row wx wx.heap.size A (ints seq)
theorem own_fine {p q : Pl} (hf : Fine p) (h : own14 p = q) : Fine q := by
  unfold own14 at h
  split at h
  · subst h; exact hf
  · subst h; exact ⟨by simp [Pl.nil], by simp [Pl.nil], by simp [Pl.nil]⟩
set_option maxRecDepth 100000 in
set_option maxHeartbeats 8000000 in
theorem add2_any (C S L A : Option Addr) (cC cS cL c : Nat) (p : Pl) (seq : List Int) (w : World) (hp : PlAt w w.heap.size C cC S cS L cL p) (hf : Fine p) (hq : Row w w.heap.size A (ints seq)) (lc : seq.length ≤ c) (lm : c ≤ maxLen) (hl : seq.length ≤ 5000) (q : Pl) (hqp : own14 p = q) :
    Calls Try.prog 18 #[.agg #[.slice C p.C.length cC, .slice S p.S.length cS, .slice L p.L.length cL], .slice A seq.length c] w (RetPoolN w (add14 q seq) q.S.length) := by
  have HS0 := Lib.hid hp
  have HQ := Lib.hid hq
  have HF := Lib.hid hf
  have HQP := Lib.hid hqp
  obtain ⟨f1, f2, f3⟩ := hf
  obtain ⟨j1, j2, j3⟩ := own_fine HF.out hqp
  have hcl : c ≤ 9223372036854775807 := lm
  clear hp hq hqp
  go_enter Try.func18, Try.ntmps18
  go_wp2_with fail
  obtain ⟨v, hv, bX, bY, bB⟩ : ∃ v, v = (w.alloc (.cells #[.slice C p.C.length cC, .slice S p.S.length cS, .slice L p.L.length cL] 27)).alloc (.cells #[.slice none 0 0, .slice none 0 0, .slice none 0 0] 27) ∧
      Blk v w.heap.size 27 #[.slice C p.C.length cC, .slice S p.S.length cS, .slice L p.L.length cL] ∧ Blk v (w.heap.size + 1) 27 #[.slice none 0 0, .slice none 0 0, .slice none 0 0] ∧ Below w.heap.size w v :=
    ⟨_, rfl, (Blk.new _ _ _).alloc _, Blk.at_new (by simp), ((Below.refl _ _).alloc (Nat.le_refl _) _).alloc (by simp) _⟩
  rw [← hv]
  have HX0 := Lib.hid bX
  have HY0 := Lib.hid bY
  have HB0 := Lib.hid bB
  have HP0 := Lib.hid (HS0.out.below bB).lt
  have HT0 := Lib.hid (HQ.out.below bB).lt
  clear hv bX bY bB HS0 HQ
  refine (vld_calls2 C S L cC cS cL p _ HP0.out HF.out _ rfl).mono ?_
  rintro e w1 ⟨rfl, hb1⟩
  have HX1 := Lib.hid (HX0.out.after hb1)
  have HY1 := Lib.hid (HY0.out.after hb1)
  have HB1 := Lib.hid (below_then HB0.out hb1 (Nat.le_refl _))
  have HP1 := Lib.hid (HP0.out.below hb1).lt
  have HT1 := Lib.hid (HT0.out.below hb1).lt
  clear hb1 HX0 HY0 HB0 HP0 HT0
  go_upto_if 12 with fail
  go_cut [] (AddPre w A seq q)
  case first =>
    obtain ⟨bv, hbv⟩ : ∃ b, vld14 p = b := ⟨_, rfl⟩
    rw [hbv]
    cases bv with
    | true =>
      have hqq : q = p := by rw [← HQP.out, own14, if_pos hbv]
      clear hbv
      go_wp2
      go_meet
      case rel =>
        rw [hqq]
        exact ⟨_, _, _, _, _, _, HX1.out, HP1.out, HY1.out, HB1.out, HT1.out⟩
    | false =>
      have hqq : q = Pl.nil := by rw [← HQP.out, own14, if_neg (by rw [hbv]; simp)]
      have HQQ := Lib.hid hqq
      clear hbv hqq
      obtain ⟨y0, y1, y2⟩ := HX1.out.cells3
      obtain ⟨z0, z1, z2⟩ := HX1.out.free3
      have hlx := HX1.out.lt
      go_wp2
      go_meet
      case rel =>
        rw [HQQ.out]
        exact ⟨none, 0, none, 0, none, 0, Blk.set3 HX1.out, PlAt.nil, HY1.out.far3 (by omega) _ _ _, below_set3 HB1.out (by omega) _ _ _, by rw [size3]; exact Row.apart3 HT1.out HX1.out _ _ _⟩
  case rest =>
    clear HX1 HY1 HB1 HP1 HT1
    have HC0 := Lib.hid hcut
    clear hcut
    go_upto_block 0 with fail
    go_cut [6] (fun s6 wx => s6 = .int .i64 (fst14 q.C seq : Int) ∧ AddPre w A seq q wx)
    case first =>
      go_wp2
      go_loopw [6] (fun s6 wr => ∃ k : Nat, k ≤ q.C.length ∧ s6 = .int .i64 (k : Int) ∧ Hid (∀ j, j < k → agr q.C seq j = false) ∧ Hid (AddPre w A seq q wr)) (fun i _ => q.C.length - (intOf i).toNat)
      case atStart => exact ⟨0, by omega, rfl, fun j hj => by omega, HC0⟩
      case round =>
        obtain ⟨k, hk, rfl, HN0, HC⟩ := hrel
        clear HC0
        obtain ⟨C', cC', S', cS', L', cL', q1, q2, q3, q4, q5⟩ := HC.out
        have HX := Lib.hid q1
        have HP := Lib.hid q2
        have HY := Lib.hid q3
        have HB := Lib.hid q4
        have HT := Lib.hid q5
        have hlc := q2.l1
        have hmc : cC' ≤ 9223372036854775807 := q2.m1
        obtain ⟨e0, e1, e2⟩ := q1.cells3
        have hlx := q1.lt
        clear q1 q2 q3 q4 q5 HC
        by_cases h1 : k < q.C.length
        · obtain ⟨n, hn⟩ : ∃ n, n = min seq.length (q.C.length - k) := ⟨_, rfl⟩
          have hn1 : n ≤ seq.length := by omega
          have hn2 : n ≤ q.C.length - k := by omega
          have HNN := Lib.hid hn
          have HAM := Lib.hid (agr_min hn)
          have HE1 : Hid (((q.C.drop k).take n).length = n) := by show _ = _; simp; omega
          have HE2 : Hid ((seq.take n).length = n) := by show _ = _; simp; omega
          clear hn
          go_upto_region 5 with fail
          go_cut [7] (fun s7 wx => s7 = .int .i64 (n : Int) ∧ wr = wx)
          case first =>
            go_wp2
            all_goals
              go_meet
              case rel =>
                refine ⟨?_, rfl⟩
                have := HNN.out
                congr 1
                omega
          case rest =>
            obtain ⟨rfl, rfl⟩ := hcut
            have k4 : IntKind.i64.wrap ((k : Int) + (n : Int)) = (k : Int) + (n : Int) := IntWalk.i64_in _ (by omega)
            have k5 : ((k : Int) + (n : Int)).toNat = k + n := by omega
            have k6 : (k : Int) ≤ (k : Int) + (n : Int) := by omega
            have k7 : (k : Int) + (n : Int) ≤ (cC' : Int) := by omega
            have k8 : (0 : Int) ≤ (k : Int) + (n : Int) := by omega
            have k9 : (n : Int) ≤ (c : Int) := by omega
            go_wp2
            clear e0 e1 e2 hlx
            cases hd : decide ((q.C.drop k).take n = seq.take n) with
            | true =>
              have HD := Lib.hid hd
              clear hd
              have HFS : Hid (fst14 q.C seq = k) := fst_eq ⟨by omega, HAM.out.trans HD.out, HN0.out⟩
              refine wp_region_tree (fun w' => Below w.heap.size w w' ∧ Blk w' w.heap.size 27 #[.slice C' q.C.length cC', .slice S' q.S.length cS', .slice L' q.L.length cL']) (.float 0 (.float 1 (.float 2 (.float 3 (.float 4 (.float 5 (.float 6 (.float 7 (.float 8 (.float 9 (.one 10 .done))))))))))) (by kernel_rfl) (by kernel_rfl) (fun _ _ d _ _ h => by cases d <;> exact h) ⟨HB.out.drew, HX.out.drew⟩ ?_
              obtain ⟨d1, hdr, hbd⟩ : ∃ d, d = wr.drew ∧ Below wr.heap.size wr d := ⟨_, rfl, (Below.refl _ _).drew⟩
              rw [← hdr]
              clear hdr
              have hbc := hbd
              have HX2 := Lib.hid (HX.out.after hbc)
              have HY2 := Lib.hid (HY.out.after hbc)
              have HB2 := Lib.hid (below_then HB.out hbc (Nat.le_refl _))
              have HP2 := Lib.hid ((HP.out.below hbc).lt)
              have HT2 := Lib.hid ((HT.out.below hbc).lt)
              clear hbc HX HY HB HP HT hbd
              repeat (first
                | (refine wpTr_fskip (by simp only [List.getElem?_toArray, List.getElem?_cons_zero, List.getElem?_cons_succ]; rfl) (by rfl) ?_
                   simp only [Act.put, List.setIfInBounds_toArray, List.set_cons_zero, List.set_cons_succ])
                | (refine wpTr_float (v := ?_) (by simp only [List.getElem?_toArray, List.getElem?_cons_zero, List.getElem?_cons_succ]; rfl) (by rfl) (fun w' hS => ?_) ?_
                   rotate_left
                   (obtain ⟨hSb, hSk⟩ := hS; obtain ⟨e0, e1, e2⟩ := hSk.cells3; have hls := hSk.lt; go_simp; first | done | rfl)
                   simp only [Act.put, List.setIfInBounds_toArray, List.set_cons_zero, List.set_cons_succ]))
              refine wpTr_one ?_
              refine stepTr_K (by simp only [List.getElem?_toArray, List.getElem?_cons_zero, List.getElem?_cons_succ]; rfl) (by rfl) (fun K hK => ?_)
              go_simp
              refine (requal_q _ _ _ _ _ _ ((q.C.drop k).take n) (seq.take n) _ ?_ ?_ HE1.out HE2.out (by simp only [maxLen]; omega) (by simp only [maxLen]; omega) true HD.out).mono ?_
              · have hr := HP2.out.r1.cut (l := k) (m := cC') (s := 1) (j := n) (.inl (by rw [ints_len]; omega))
                rw [Nat.mul_one] at hr
                rw [ints_take, ints_drop]
                exact hr
              · exact HT2.out.init
              rintro e w9 ⟨rfl, hb9⟩
              clear k4 k5 k6 k7 k8 k9
              have hbc := hb9
              have HX3 := Lib.hid (HX2.out.after hbc)
              have HY3 := Lib.hid (HY2.out.after hbc)
              have HB3 := Lib.hid (below_then HB2.out hbc (Nat.le_refl _))
              have HP3 := Lib.hid ((HP2.out.below hbc).lt)
              have HT3 := Lib.hid ((HT2.out.below hbc).lt)
              clear hbc HX2 HY2 HB2 HP2 HT2 hb9
              refine hK.out _ _ ⟨HB3.out, HX3.out⟩ ?_
              clear hK K
              try simp only [Act.put, List.setIfInBounds_toArray, List.set_cons_zero, List.set_cons_succ]
              refine wpTr_done ?_
              go_wp2
              go_meet
              case rel => exact ⟨by rw [HFS.out], _, _, _, _, _, _, HX3.out, HP3.out, HY3.out, HB3.out, HT3.out⟩
            | false =>
              have HD := Lib.hid hd
              clear hd
              have HN : Hid (∀ j, j < k + 1 → agr q.C seq j = false) := fun j hj => by
                rcases Nat.lt_succ_iff_lt_or_eq.1 hj with h | rfl
                · exact HN0.out j h
                · exact HAM.out.trans HD.out
              refine wp_region_tree (fun w' => Below w.heap.size w w' ∧ Blk w' w.heap.size 27 #[.slice C' q.C.length cC', .slice S' q.S.length cS', .slice L' q.L.length cL']) (.float 0 (.float 1 (.float 2 (.float 3 (.float 4 (.float 5 (.float 6 (.float 7 (.float 8 (.float 9 (.one 10 .done))))))))))) (by kernel_rfl) (by kernel_rfl) (fun _ _ d _ _ h => by cases d <;> exact h) ⟨HB.out.drew, HX.out.drew⟩ ?_
              obtain ⟨d1, hdr, hbd⟩ : ∃ d, d = wr.drew ∧ Below wr.heap.size wr d := ⟨_, rfl, (Below.refl _ _).drew⟩
              rw [← hdr]
              clear hdr
              have hbc := hbd
              have HX2 := Lib.hid (HX.out.after hbc)
              have HY2 := Lib.hid (HY.out.after hbc)
              have HB2 := Lib.hid (below_then HB.out hbc (Nat.le_refl _))
              have HP2 := Lib.hid ((HP.out.below hbc).lt)
              have HT2 := Lib.hid ((HT.out.below hbc).lt)
              clear hbc HX HY HB HP HT hbd
              repeat (first
                | (refine wpTr_fskip (by simp only [List.getElem?_toArray, List.getElem?_cons_zero, List.getElem?_cons_succ]; rfl) (by rfl) ?_
                   simp only [Act.put, List.setIfInBounds_toArray, List.set_cons_zero, List.set_cons_succ])
                | (refine wpTr_float (v := ?_) (by simp only [List.getElem?_toArray, List.getElem?_cons_zero, List.getElem?_cons_succ]; rfl) (by rfl) (fun w' hS => ?_) ?_
                   rotate_left
                   (obtain ⟨hSb, hSk⟩ := hS; obtain ⟨e0, e1, e2⟩ := hSk.cells3; have hls := hSk.lt; go_simp; first | done | rfl)
                   simp only [Act.put, List.setIfInBounds_toArray, List.set_cons_zero, List.set_cons_succ]))
              refine wpTr_one ?_
              refine stepTr_K (by simp only [List.getElem?_toArray, List.getElem?_cons_zero, List.getElem?_cons_succ]; rfl) (by rfl) (fun K hK => ?_)
              go_simp
              refine (requal_q _ _ _ _ _ _ ((q.C.drop k).take n) (seq.take n) _ ?_ ?_ HE1.out HE2.out (by simp only [maxLen]; omega) (by simp only [maxLen]; omega) false HD.out).mono ?_
              · have hr := HP2.out.r1.cut (l := k) (m := cC') (s := 1) (j := n) (.inl (by rw [ints_len]; omega))
                rw [Nat.mul_one] at hr
                rw [ints_take, ints_drop]
                exact hr
              · exact HT2.out.init
              rintro e w9 ⟨rfl, hb9⟩
              clear k4 k5 k6 k7 k8 k9
              have hbc := hb9
              have HX3 := Lib.hid (HX2.out.after hbc)
              have HY3 := Lib.hid (HY2.out.after hbc)
              have HB3 := Lib.hid (below_then HB2.out hbc (Nat.le_refl _))
              have HP3 := Lib.hid ((HP2.out.below hbc).lt)
              have HT3 := Lib.hid ((HT2.out.below hbc).lt)
              clear hbc HX2 HY2 HB2 HP2 HT2 hb9
              refine hK.out _ _ ⟨HB3.out, HX3.out⟩ ?_
              clear hK K
              try simp only [Act.put, List.setIfInBounds_toArray, List.set_cons_zero, List.set_cons_succ]
              refine wpTr_done ?_
              go_wp2
              go_roundw
              case rel => exact ⟨k + 1, by omega, by go_num, HN, _, _, _, _, _, _, HX3.out, HP3.out, HY3.out, HB3.out, HT3.out⟩
              case measure => simp [intOf]; omega
        · have hkl : k = q.C.length := by omega
          have HFS : Hid (fst14 q.C seq = k) := fst_eq ⟨by omega, by rw [hkl]; exact agr_end _ _, HN0.out⟩
          clear hkl
          go_wp2
          go_meet
          case rel => exact ⟨by rw [HFS.out], _, _, _, _, _, _, HX.out, HP.out, HY.out, HB.out, HT.out⟩
    case rest =>
      obtain ⟨rfl, hcut⟩ := hcut
      clear HC0
      obtain ⟨C', cC', S', cS', L', cL', q1, q2, q3, q4, q5⟩ := hcut
      have HX := Lib.hid q1
      have HP := Lib.hid q2
      have HY := Lib.hid q3
      have HB := Lib.hid q4
      have HT := Lib.hid q5
      have hyl := q3.lt
      obtain ⟨k, hfk⟩ : ∃ k, fst14 q.C seq = k := ⟨_, rfl⟩
      have hkl : k ≤ q.C.length := hfk ▸ (fst_is q.C seq).1
      have HFK := Lib.hid hfk
      rw [hfk]
      clear q1 q2 q3 q4 q5 hfk
      obtain ⟨i0, hi0, hz0, hz1, hz2⟩ := info_parts int_info
      go_upto_region 9 with fail
      obtain ⟨p1, hv, b0, bX, bY, bZ, bB, bP, bT⟩ : ∃ v, v = wc.alloc (.cells #[.slice none 0 0, .slice none 0 0, .slice none 0 0] 27) ∧ v.heap.size = wc.heap.size + 1 ∧ Blk v w.heap.size 27 #[.slice C' q.C.length cC', .slice S' q.S.length cS', .slice L' q.L.length cL'] ∧ Blk v (w.heap.size + 1) 27 #[.slice none 0 0, .slice none 0 0, .slice none 0 0] ∧ Blk v wc.heap.size 27 #[.slice none 0 0, .slice none 0 0, .slice none 0 0] ∧ Below w.heap.size w v ∧ PlAt v v.heap.size C' cC' S' cS' L' cL' q ∧ Row v v.heap.size A (ints seq) :=
        ⟨_, rfl, by simp, HX.out.alloc _, HY.out.alloc _, Blk.new _ _ _, below_then HB.out ((Below.refl _ _).alloc (Nat.le_refl _) _) (Nat.le_refl _), (HP.out.below ((Below.refl _ _).alloc (Nat.le_refl _) _)).lt, (HT.out.below ((Below.refl _ _).alloc (Nat.le_refl _) _)).lt⟩
      rw [← hv]
      clear hv HX HP HY HB HT
      obtain ⟨t8, ht8⟩ : ∃ t8, t8 = wc.heap.size := ⟨_, rfl⟩
      rw [← ht8] at b0 bZ ⊢
      have h8 : w.heap.size + 1 < t8 := by omega
      have h8' : t8 < p1.heap.size := by omega
      have HX := Lib.hid bX
      have HY := Lib.hid bY
      have HZ := Lib.hid bZ
      have HB := Lib.hid bB
      have HP := Lib.hid bP
      have HT := Lib.hid bT
      obtain ⟨e0, e1, e2⟩ := bX.cells3
      obtain ⟨e3, e4, e5⟩ := bZ.cells3
      have hlx := bX.lt
      have hqc := Nat.le_trans bP.l1 bP.m1
      clear bX bY bZ bB bP bT b0 ht8 hyl
      go_upto_region 10 with (first
        | (at_builtin
           refine wpList_append_row _ rfl (.tmp 41) (.tmp 43) _ rfl p1.heap.size 3 i0 _ 1 8 Try.underlying25 hi0 hz0 hz1 hz2 rfl (by omega) (.slice none 0 0) 0 [] rfl (own_nil p1) _ C' q.C.length cC' (ints q.C) rfl (by simp [ints_len]) HP.out.r1 (ints_one _) (by simp only [maxLen]; omega) (by omega) (Nat.le_refl _) ?_
           intro y u1 hown hg hat
           rw [Nat.zero_add, List.nil_append] at hown
           obtain ⟨A1, c1, rfl, g1, g2, g3⟩ := own_row hown
           have hb : Below p1.heap.size p1 u1 := (Below.refl _ _).grown hg (Nat.le_refl _) (by simp [Value.ownBlock])
           have HO1 := Lib.hid hown
           have hsz1 := hb.size
           have HX1 := Lib.hid (HX.out.after hb)
           have HY1 := Lib.hid (HY.out.after hb)
           have HZ1 := Lib.hid (HZ.out.after hb)
           have HB1 := Lib.hid (below_then HB.out hb (Nat.le_refl _))
           have HP1 := Lib.hid (HP.out.below hb)
           have HT1 := Lib.hid (HT.out.below hb)
           clear hown hg hat g3 hb HX HY HZ HB HP HT e0 e1 e2 e3 e4 e5 hlx
           obtain ⟨e3, e4, e5⟩ := HZ1.out.cells3
           obtain ⟨z3, z4, z5⟩ := HZ1.out.free3
           have hlz := HZ1.out.lt))
      clear e3 e4 e5 z3 z4 z5 hlz
      obtain ⟨p2, hv, bX, bY, bZ, bB, bP, bT, bO, hsz2⟩ : ∃ v, v = u1.setCell ⟨t8, 0, none⟩ (.slice A1 q.C.length c1) ∧ Blk v w.heap.size 27 #[.slice C' q.C.length cC', .slice S' q.S.length cS', .slice L' q.L.length cL'] ∧ Blk v (w.heap.size + 1) 27 #[.slice none 0 0, .slice none 0 0, .slice none 0 0] ∧ Blk v t8 27 #[.slice A1 q.C.length c1, .slice none 0 0, .slice none 0 0] ∧ Below w.heap.size w v ∧ PlAt v p1.heap.size C' cC' S' cS' L' cL' q ∧ Row v p1.heap.size A (ints seq) ∧ v.ownsRow p1.heap.size 3 1 (.slice A1 q.C.length c1) q.C.length (ints q.C) ∧ p1.heap.size ≤ v.heap.size :=
        ⟨_, rfl, HX1.out.far (by simp; omega) _, HY1.out.far (by simp; omega) _, Blk.set1 HZ1.out, HB1.out.setCell (by simp; omega) _, PlAt.apartB HP1.out HZ1.out _, Row.apart1 HT1.out HZ1.out _, own_set HO1.out h8', by simpa using hsz1⟩
      rw [← hv]
      have HX2 := Lib.hid bX
      have HY2 := Lib.hid bY
      have HZ2 := Lib.hid bZ
      have HB2 := Lib.hid bB
      have HP2 := Lib.hid bP
      have HT2 := Lib.hid bT
      have HO2 := Lib.hid bO
      obtain ⟨e0, e1, e2⟩ := bX.cells3
      have hlx := bX.lt
      clear hv bX bY bZ bB bP bT bO HX1 HY1 HZ1 HB1 HP1 HT1 HO1
      go_upto_if 54 with fail
      clear e0 e1 e2 hlx
      go_cut [] (fun wx => ∃ A2 c2, Blk wx t8 27 #[.slice A2 (put14 q.C seq).length c2, .slice none 0 0, .slice none 0 0] ∧ (put14 q.C seq).length ≤ c2 ∧ c2 ≤ maxLen ∧ Row wx wx.heap.size A2 (ints (put14 q.C seq)) ∧ t8 < wx.heap.size ∧ Blk wx w.heap.size 27 #[.slice C' q.C.length cC', .slice S' q.S.length cS', .slice L' q.L.length cL'] ∧ Blk wx (w.heap.size + 1) 27 #[.slice none 0 0, .slice none 0 0, .slice none 0 0] ∧ Below w.heap.size w wx ∧ PlAt wx wx.heap.size C' cC' S' cS' L' cL' q)
      case first =>
        obtain ⟨P, hPT⟩ : ∃ P, put14 q.C seq = P := ⟨_, rfl⟩
        have HPT : Hid (P = q.C ++ seq.drop (q.C.length - k)) := by show _ = _; rw [← hPT]; unfold put14; rw [HFK.out]
        have HPQ := Lib.hid hPT
        clear hPT
        by_cases hmore : q.C.length - k < seq.length
        · have m1 : (0 : Int) ≤ (q.C.length : Int) - (k : Int) := by omega
          have m2 : (q.C.length : Int) - (k : Int) ≤ (seq.length : Int) := by omega
          have m3 : (q.C.length : Int) - (k : Int) < (seq.length : Int) := by omega
          have m4 : ((q.C.length : Int) - (k : Int)).toNat = q.C.length - k := by omega
          go_wp2
          refine wp_region_tree (fun w' => Below w.heap.size w w') (.float 0 (.float 2 (.float 3 (.float 4 (.one 1 (.one 5 (.float 6 (.one 7 .done)))))))) (by kernel_rfl) (by kernel_rfl) (fun _ _ d _ _ h => by cases d <;> exact h) HB2.out.drew ?_
          obtain ⟨d1, hv, bX, bY, bZ, bB, bP, bT, bO, hsz3⟩ : ∃ v, v = p2.drew ∧ Blk v w.heap.size 27 #[.slice C' q.C.length cC', .slice S' q.S.length cS', .slice L' q.L.length cL'] ∧ Blk v (w.heap.size + 1) 27 #[.slice none 0 0, .slice none 0 0, .slice none 0 0] ∧ Blk v t8 27 #[.slice A1 q.C.length c1, .slice none 0 0, .slice none 0 0] ∧ Below w.heap.size w v ∧ PlAt v p1.heap.size C' cC' S' cS' L' cL' q ∧ Row v p1.heap.size A (ints seq) ∧ v.ownsRow p1.heap.size 3 1 (.slice A1 q.C.length c1) q.C.length (ints q.C) ∧ p1.heap.size ≤ v.heap.size :=
            ⟨_, rfl, HX2.out, HY2.out, HZ2.out, HB2.out.drew, HP2.out.below (Below.refl _ _).drew, HT2.out.below (Below.refl _ _).drew, own_drew HO2.out, hsz2⟩
          rw [← hv]
          have HX3 := Lib.hid bX
          have HY3 := Lib.hid bY
          have HZ3 := Lib.hid bZ
          have HB3 := Lib.hid bB
          have HP3 := Lib.hid bP
          have HT3 := Lib.hid bT
          have HO3 := Lib.hid bO
          clear hv bX bY bZ bB bP bT bO HX2 HY2 HZ2 HB2 HP2 HT2 HO2
          repeat (first
            | (refine wpTr_fskip (by simp only [List.getElem?_toArray, List.getElem?_cons_zero, List.getElem?_cons_succ]; rfl) (by rfl) ?_
               simp only [Act.put, List.setIfInBounds_toArray, List.set_cons_zero, List.set_cons_succ])
            | (refine wpTr_float (v := ?_) (by simp only [List.getElem?_toArray, List.getElem?_cons_zero, List.getElem?_cons_succ]; rfl) (by rfl) (fun w' hS => ?_) ?_
               rotate_left
               (skip; go_simp; first | done | rfl)
               simp only [Act.put, List.setIfInBounds_toArray, List.set_cons_zero, List.set_cons_succ]))
          refine wpTr_one ?_
          refine stepTr_K (by simp only [List.getElem?_toArray, List.getElem?_cons_zero, List.getElem?_cons_succ]; rfl) (by rfl) (fun K hK => ?_)
          obtain ⟨e3, e4, e5⟩ := HZ3.out.cells3
          have hlz := HZ3.out.lt
          go_simp
          clear e3 e4 e5 hlz
          refine hK.out _ _ HB3.out ?_
          clear hK K
          try simp only [Act.put, List.setIfInBounds_toArray, List.set_cons_zero, List.set_cons_succ]
          refine wpTr_one ?_
          refine stepTr_K (by simp only [List.getElem?_toArray, List.getElem?_cons_zero, List.getElem?_cons_succ]; rfl) (by rfl) (fun K hK => ?_)
          clear m1 m2 m3 m4
          refine wp_append_row _ (.tmp 56) (.tmp 59) _ rfl p1.heap.size 3 i0 _ 1 8 Try.underlying25 hi0 hz0 hz1 hz2 rfl (by omega) (.slice A1 q.C.length c1) q.C.length (ints q.C) rfl HO3.out p1.heap.size (cutA A c (q.C.length - k) 1) (seq.length - (q.C.length - k)) _ (ints (seq.drop (q.C.length - k))) rfl (by rw [ints_len]; simp) (HT3.out.tail lc) (ints_one _) (by simp only [maxLen]; omega) (by omega) hsz3 ?_
          intro y u2 hown hg hat
          have hlen : q.C.length + (seq.length - (q.C.length - k)) = P.length := by rw [HPT.out]; simp
          rw [hlen, ← ints_append, ← HPT.out] at hown
          obtain ⟨A2, c2, rfl, g1, g2, g3⟩ := own_row hown
          have hb : Below p1.heap.size d1 u2 := (Below.refl _ _).grown hg hsz3 (fun g hg => own_base HO3.out g hg)
          have HX4 := Lib.hid (HX3.out.below hb (by omega))
          have HY4 := Lib.hid (HY3.out.below hb (by omega))
          have HZ4 := Lib.hid (HZ3.out.below hb h8')
          have HB4 := Lib.hid (HB3.out.trans (hb.mono (by omega)))
          have HP4 := Lib.hid (HP3.out.below hb)
          have HR4 := Lib.hid g3
          clear hown hg hat g3 hb HX3 HY3 HZ3 HB3 HP3 HT3 HO3 hlen
          refine hK.out _ _ HB4.out ?_
          clear hK K
          try simp only [Act.put, List.setIfInBounds_toArray, List.set_cons_zero, List.set_cons_succ]
          repeat (first
            | (refine wpTr_fskip (by simp only [List.getElem?_toArray, List.getElem?_cons_zero, List.getElem?_cons_succ]; rfl) (by rfl) ?_
               simp only [Act.put, List.setIfInBounds_toArray, List.set_cons_zero, List.set_cons_succ])
            | (refine wpTr_float (v := ?_) (by simp only [List.getElem?_toArray, List.getElem?_cons_zero, List.getElem?_cons_succ]; rfl) (by rfl) (fun w' hS => ?_) ?_
               rotate_left
               (skip; go_simp; first | done | rfl)
               simp only [Act.put, List.setIfInBounds_toArray, List.set_cons_zero, List.set_cons_succ]))
          refine wpTr_one ?_
          refine stepTr_K (by simp only [List.getElem?_toArray, List.getElem?_cons_zero, List.getElem?_cons_succ]; rfl) (by rfl) (fun K hK => ?_)
          obtain ⟨e3, e4, e5⟩ := HZ4.out.cells3
          obtain ⟨z3, z4, z5⟩ := HZ4.out.free3
          have hlz := HZ4.out.lt
          go_simp
          clear e3 e4 e5 z3 z4 z5
          refine hK.out _ _ (HB4.out.setCell (by simp; omega) _) ?_
          clear hK K
          try simp only [Act.put, List.setIfInBounds_toArray, List.set_cons_zero, List.set_cons_succ]
          refine wpTr_done ?_
          go_wp2
          go_meet
          case rel =>
            rw [HPQ.out]
            exact ⟨A2, c2, Blk.set1 HZ4.out, g1, g2, by rw [size1]; exact Row.apart1 HR4.out HZ4.out _, by rw [size1]; exact hlz, HX4.out.far (by simp; omega) _, HY4.out.far (by simp; omega) _, HB4.out.setCell (by simp; omega) _, (PlAt.apartB HP4.out HZ4.out _).lt⟩
        · have HPC : Hid (P = q.C) := by
            show _ = _
            rw [HPT.out, List.drop_eq_nil_of_le (by omega), List.append_nil]
          have m3 : ¬ (q.C.length : Int) - (k : Int) < (seq.length : Int) := by omega
          obtain ⟨_, _, hxx, g1, g2, g3⟩ := own_row HO2.out
          injection hxx with x1 x2 x3
          subst x1 x3
          have HR2 := Lib.hid g3
          clear g3 x2
          go_wp2
          go_meet
          case rel =>
            rw [HPQ.out, HPC.out]
            exact ⟨A1, c1, HZ2.out, g1, g2, HR2.out, HZ2.out.lt, HX2.out, HY2.out, HB2.out, HP2.out.lt⟩
      case rest =>
        obtain ⟨A2, c2, bZ, g1, g2, bR, h8w, bX, bY, bB, bP⟩ := hcut
        clear HX2 HY2 HZ2 HB2 HP2 HT2 HO2 hsz1 hsz2
        have HX := Lib.hid bX
        have HY := Lib.hid bY
        have HZ := Lib.hid bZ
        have HB := Lib.hid bB
        have HP := Lib.hid bP
        have HR := Lib.hid bR
        have G1 := Lib.hid g1
        obtain ⟨e0, e1, e2⟩ := bX.cells3
        obtain ⟨e3, e4, e5⟩ := bZ.cells3
        have hlx := bX.lt
        clear bX bY bZ bB bP bR g1
        generalize hw0 : wc = p3 at *
        clear hw0
        go_upto_region 14 with (first
          | (at_builtin
             refine wpList_append_row _ rfl (.tmp 63) (.tmp 65) _ rfl p3.heap.size 3 i0 _ 1 8 Try.underlying25 hi0 hz0 hz1 hz2 rfl (by omega) (.slice none 0 0) 0 [] rfl (own_nil p3) _ S' q.S.length cS' (ints q.S) rfl (by simp [ints_len]) HP.out.r2 (ints_one _) (by simp only [maxLen]; omega) (by omega) (Nat.le_refl _) ?_
             intro y u3 hown hg hat
             rw [Nat.zero_add, List.nil_append] at hown
             obtain ⟨A3, c3, rfl, x1, x2, x3⟩ := own_row hown
             have hb : Below p3.heap.size p3 u3 := (Below.refl _ _).grown hg (Nat.le_refl _) (by simp [Value.ownBlock])
             have HO3 := Lib.hid hown
             have HB3 := Lib.hid hb
             clear hown hg hat x3 hb x1 x2 e0 e1 e2 e3 e4 e5)
          | (at_builtin
             refine wpList_append_row _ rfl (.tmp 66) (.tmp 68) _ rfl p3.heap.size 3 i0 _ 1 8 Try.underlying25 hi0 hz0 hz1 hz2 rfl (by omega) (.slice A3 q.S.length c3) q.S.length (ints q.S) rfl (own_below HO3.out ((Below.refl _ _).alloc (Nat.le_refl _) _)) _ (some ⟨u3.heap.size, 0, none⟩) 1 1 (ints [(k : Int)]) rfl (by simp [ints_len]) ((Blk.new u3 3 #[.int .i64 (k : Int)]).row rfl) (ints_one _) (by simp only [maxLen]; omega) (by omega) (Nat.le_trans HB3.out.size (by simp)) ?_
             intro y u4 hown hg hat
             rw [← ints_append] at hown
             obtain ⟨A4, c4, rfl, x1, x2, x3⟩ := own_row hown
             have hb : Below p3.heap.size p3 u4 := (HB3.out.alloc (Nat.le_trans HB3.out.size (Nat.le_refl _)) _).grown hg (Nat.le_trans HB3.out.size (by simp)) (fun g hg => own_base HO3.out g hg)
             have HR4 := Lib.hid x3
             have HX4 := Lib.hid (HX.out.after hb)
             have HY4 := Lib.hid (HY.out.after hb)
             have HZ4 := Lib.hid (HZ.out.after hb)
             have HB4 := Lib.hid (below_then HB.out hb (Nat.le_refl _))
             have HP4 := Lib.hid (HP.out.below hb).lt
             have HC4 := Lib.hid (HR.out.below hb).lt
             clear hown hg hat x3 hb HO3 HB3 HX HY HZ HB HP HR hlx
             obtain ⟨e3, e4, e5⟩ := HZ4.out.cells3
             obtain ⟨z3, z4, z5⟩ := HZ4.out.free3
             have hlz := HZ4.out.lt))
        clear e3 e4 e5 z3 z4 z5
        obtain ⟨p4, hv, bX, bY, bZ, bB, bP, bC, bR⟩ : ∃ v, v = u4.setCell ⟨t8, 1, none⟩ (.slice A4 (q.S.length + 1) c4) ∧ Blk v w.heap.size 27 #[.slice C' q.C.length cC', .slice S' q.S.length cS', .slice L' q.L.length cL'] ∧ Blk v (w.heap.size + 1) 27 #[.slice none 0 0, .slice none 0 0, .slice none 0 0] ∧ Blk v t8 27 #[.slice A2 (put14 q.C seq).length c2, .slice A4 (q.S.length + 1) c4, .slice none 0 0] ∧ Below w.heap.size w v ∧ PlAt v v.heap.size C' cC' S' cS' L' cL' q ∧ Row v v.heap.size A2 (ints (put14 q.C seq)) ∧ Row v v.heap.size A4 (ints (q.S ++ [(k : Int)])) :=
          ⟨_, rfl, HX4.out.far (by simp; omega) _, HY4.out.far (by simp; omega) _, Blk.set2 HZ4.out, HB4.out.setCell (by simp; omega) _, (PlAt.apartB HP4.out HZ4.out _).lt, by rw [size1]; exact Row.apart1 HC4.out HZ4.out _, by rw [size1]; exact Row.apart1 HR4.out HZ4.out _⟩
        rw [← hv]
        have HX := Lib.hid bX
        have HY := Lib.hid bY
        have HZ := Lib.hid bZ
        have HB := Lib.hid bB
        have HP := Lib.hid bP
        have HC := Lib.hid bC
        have HR := Lib.hid bR
        obtain ⟨e0, e1, e2⟩ := bX.cells3
        obtain ⟨e3, e4, e5⟩ := bZ.cells3
        have hlx := bX.lt
        have hl8 := bZ.lt
        clear bX bY bZ bB bP bC bR HX4 HY4 HZ4 HB4 HP4 HC4 HR4 hv hlz
        have y1 := x1
        have y2 := x2
        clear x1 x2
        go_upto_region 15 with (first
          | (at_builtin
             refine wpList_append_row _ rfl (.tmp 72) (.tmp 74) _ rfl p4.heap.size 3 i0 _ 1 8 Try.underlying25 hi0 hz0 hz1 hz2 rfl (by omega) (.slice none 0 0) 0 [] rfl (own_nil p4) _ L' q.L.length cL' (ints q.L) rfl (by simp [ints_len]) HP.out.r3 (ints_one _) (by simp only [maxLen]; omega) (by omega) (Nat.le_refl _) ?_
             intro y u5 hown hg hat
             rw [Nat.zero_add, List.nil_append] at hown
             obtain ⟨A5, c5, rfl, x1, x2, x3⟩ := own_row hown
             have hb : Below p4.heap.size p4 u5 := (Below.refl _ _).grown hg (Nat.le_refl _) (by simp [Value.ownBlock])
             have HO3 := Lib.hid hown
             have HB3 := Lib.hid hb
             clear hown hg hat x3 hb x1 x2 e0 e1 e2 e3 e4 e5)
          | (at_builtin
             refine wpList_append_row _ rfl (.tmp 75) (.tmp 78) _ rfl p4.heap.size 3 i0 _ 1 8 Try.underlying25 hi0 hz0 hz1 hz2 rfl (by omega) (.slice A5 q.L.length c5) q.L.length (ints q.L) rfl (own_below HO3.out ((Below.refl _ _).alloc (Nat.le_refl _) _)) _ (some ⟨u5.heap.size, 0, none⟩) 1 1 (ints [(seq.length : Int)]) rfl (by simp [ints_len]) ((Blk.new u5 3 #[.int .i64 (seq.length : Int)]).row rfl) (ints_one _) (by simp only [maxLen]; omega) (by omega) (Nat.le_trans HB3.out.size (by simp)) ?_
             intro y u6 hown hg hat
             rw [← ints_append] at hown
             obtain ⟨A6, c6, rfl, x1, x2, x3⟩ := own_row hown
             have hb : Below p4.heap.size p4 u6 := (HB3.out.alloc (Nat.le_trans HB3.out.size (Nat.le_refl _)) _).grown hg (Nat.le_trans HB3.out.size (by simp)) (fun g hg => own_base HO3.out g hg)
             have HL4 := Lib.hid x3
             have HX4 := Lib.hid (HX.out.after hb)
             have HY4 := Lib.hid (HY.out.after hb)
             have HZ4 := Lib.hid (HZ.out.after hb)
             have HB4 := Lib.hid (below_then HB.out hb (Nat.le_refl _))
             have HC4 := Lib.hid (HC.out.below hb).lt
             have HR4 := Lib.hid (HR.out.below hb).lt
             clear hown hg hat x3 hb HO3 HB3 HX HY HZ HB HP HR HC hlx hl8
             obtain ⟨e3, e4, e5⟩ := HZ4.out.cells3
             obtain ⟨z3, z4, z5⟩ := HZ4.out.free3
             have hlz := HZ4.out.lt))
        clear e3 e4 e5 z3 z4 z5
        obtain ⟨p5, hv, bX, bY, bZ, bB, bC, bR, bL⟩ : ∃ v, v = u6.setCell ⟨t8, 2, none⟩ (.slice A6 (q.L.length + 1) c6) ∧ Blk v w.heap.size 27 #[.slice C' q.C.length cC', .slice S' q.S.length cS', .slice L' q.L.length cL'] ∧ Blk v (w.heap.size + 1) 27 #[.slice none 0 0, .slice none 0 0, .slice none 0 0] ∧ Blk v t8 27 #[.slice A2 (put14 q.C seq).length c2, .slice A4 (q.S.length + 1) c4, .slice A6 (q.L.length + 1) c6] ∧ Below w.heap.size w v ∧ Row v v.heap.size A2 (ints (put14 q.C seq)) ∧ Row v v.heap.size A4 (ints (q.S ++ [(k : Int)])) ∧ Row v v.heap.size A6 (ints (q.L ++ [(seq.length : Int)])) :=
          ⟨_, rfl, HX4.out.far (by simp; omega) _, HY4.out.far (by simp; omega) _, Blk.set3' HZ4.out, HB4.out.setCell (by simp; omega) _, by rw [size1]; exact Row.apart1 HC4.out HZ4.out _, by rw [size1]; exact Row.apart1 HR4.out HZ4.out _, by rw [size1]; exact Row.apart1 HL4.out HZ4.out _⟩
        rw [← hv]
        have HX := Lib.hid bX
        have HY := Lib.hid bY
        have HZ := Lib.hid bZ
        have HB := Lib.hid bB
        have HC := Lib.hid bC
        have HR := Lib.hid bR
        have HL := Lib.hid bL
        clear bX bY bZ bB bC bR bL HX4 HY4 HZ4 HB4 HC4 HR4 HL4 hv hlz
        refine wp_region_tree (fun w' => Below w.heap.size w w' ∧ Blk w' w.heap.size 27 #[.slice C' q.C.length cC', .slice S' q.S.length cS', .slice L' q.L.length cL'] ∧ Blk w' t8 27 #[.slice A2 (put14 q.C seq).length c2, .slice A4 (q.S.length + 1) c4, .slice A6 (q.L.length + 1) c6]) (.float 0 (.float 1 (.float 2 (.float 3 (.one 4 (.float 5 .done)))))) (by kernel_rfl) (by kernel_rfl) (fun _ _ d _ _ h => by cases d <;> exact h) ⟨HB.out.drew, HX.out.drew, HZ.out.drew⟩ ?_
        obtain ⟨p6, hv, bX, bY, bZ, bB, bC, bR, bL⟩ : ∃ v, v = p5.drew ∧ Blk v w.heap.size 27 #[.slice C' q.C.length cC', .slice S' q.S.length cS', .slice L' q.L.length cL'] ∧ Blk v (w.heap.size + 1) 27 #[.slice none 0 0, .slice none 0 0, .slice none 0 0] ∧ Blk v t8 27 #[.slice A2 (put14 q.C seq).length c2, .slice A4 (q.S.length + 1) c4, .slice A6 (q.L.length + 1) c6] ∧ Below w.heap.size w v ∧ Row v v.heap.size A2 (ints (put14 q.C seq)) ∧ Row v v.heap.size A4 (ints (q.S ++ [(k : Int)])) ∧ Row v v.heap.size A6 (ints (q.L ++ [(seq.length : Int)])) :=
          ⟨_, rfl, HX.out, HY.out, HZ.out, HB.out.drew, HC.out, HR.out, HL.out⟩
        rw [← hv]
        clear HX HY HZ HB HC HR HL hv
        have HX := Lib.hid bX
        have HY := Lib.hid bY
        have HZ := Lib.hid bZ
        have HB := Lib.hid bB
        have HC := Lib.hid bC
        have HR := Lib.hid bR
        have HL := Lib.hid bL
        clear bX bY bZ bB bC bR bL
        repeat (first
          | (refine wpTr_fskip (by simp only [List.getElem?_toArray, List.getElem?_cons_zero, List.getElem?_cons_succ]; rfl) (by rfl) ?_
             simp only [Act.put, List.setIfInBounds_toArray, List.set_cons_zero, List.set_cons_succ])
          | (refine wpTr_float (v := ?_) (by simp only [List.getElem?_toArray, List.getElem?_cons_zero, List.getElem?_cons_succ]; rfl) (by rfl) (fun w' hS => ?_) ?_
             rotate_left
             (obtain ⟨hSb, hSk, hSz⟩ := hS; obtain ⟨e0, e1, e2⟩ := hSk.cells3; obtain ⟨e3, e4, e5⟩ := hSz.cells3; have hls := hSk.lt; have hlz := hSz.lt; go_simp; first | done | rfl)
             simp only [Act.put, List.setIfInBounds_toArray, List.set_cons_zero, List.set_cons_succ]))
        refine wpTr_one ?_
        refine stepTr_K (by simp only [List.getElem?_toArray, List.getElem?_cons_zero, List.getElem?_cons_succ]; rfl) (by rfl) (fun K hK => ?_)
        obtain ⟨e3, e4, e5⟩ := HY.out.cells3
        obtain ⟨z3, z4, z5⟩ := HY.out.free3
        have hly := HY.out.lt
        go_simp
        clear e3 e4 e5 z3 z4 z5
        refine hK.out _ _ ⟨below_set3 (g := w.heap.size + 1) HB.out (by omega) _ _ _, HX.out.far3 (g' := w.heap.size + 1) (by omega) _ _ _, HZ.out.far3 (g' := w.heap.size + 1) (by omega) _ _ _⟩ ?_
        clear hK K
        try simp only [Act.put, List.setIfInBounds_toArray, List.set_cons_zero, List.set_cons_succ]
        repeat (first
          | (refine wpTr_fskip (by simp only [List.getElem?_toArray, List.getElem?_cons_zero, List.getElem?_cons_succ]; rfl) (by rfl) ?_
             simp only [Act.put, List.setIfInBounds_toArray, List.set_cons_zero, List.set_cons_succ])
          | (refine wpTr_float (v := ?_) (by simp only [List.getElem?_toArray, List.getElem?_cons_zero, List.getElem?_cons_succ]; rfl) (by rfl) (fun w' hS => ?_) ?_
             rotate_left
             (skip; go_simp; first | done | rfl)
             simp only [Act.put, List.setIfInBounds_toArray, List.set_cons_zero, List.set_cons_succ]))
        refine wpTr_done ?_
        go_wp2
        obtain ⟨q0, q1, q2⟩ := (Blk.set3 (a := .slice A2 (put14 q.C seq).length c2) (b := .slice A4 (q.S.length + 1) c4) (c := .slice A6 (q.L.length + 1) c6) HY.out).cells3
        refine bodyPost_ret (v := .tuple #[.agg #[.slice A2 (put14 q.C seq).length c2, .slice A4 (q.S.length + 1) c4, .slice A6 (q.L.length + 1) c6], .int .i64 (q.S.length : Int)]) (by simp [results, Try.results18, go_sem, q0, q1, q2]) rfl ?_
        refine ⟨A2, c2, A4, c4, A6, c6, ?_, ⟨G1.out, g2, by rw [size3]; exact Row.apart3 HC.out HY.out _ _ _, ?_, y2, ?_, ?_, x2, ?_⟩, below_set3 (g := w.heap.size + 1) HB.out (by omega) _ _ _⟩
        · simp [add14]
        · simpa [add14] using y1
        · rw [size3]
          show Row _ _ A4 (ints (q.S ++ [(fst14 q.C seq : Int)]))
          rw [HFK.out]
          exact Row.apart3 HR.out HY.out _ _ _
        · simpa [add14] using x1
        · rw [size3]
          exact Row.apart3 HL.out HY.out _ _ _
end Go.Proofs.Yteobffcnfigilaa
