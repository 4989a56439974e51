/-
  ref10.Counted, Get, Name, Few; ref01.Few.
-/
import Derived.Test.YtkoojoogddndnaaBp1
namespace Go.Proofs.Ytkoojoogddndnaa
open Go.RowKit Go.UtYtkoojoogddndnaa
theorem other_at {w : World} {T : TypeId} : StrsAt (w.alloc (.cells #[.string ⟨#[79, 116, 104, 101, 114]⟩] T)) (w.alloc (.cells #[.string ⟨#[79, 116, 104, 101, 114]⟩] T)).heap.size (some ⟨w.heap.size, 0, none⟩) other.names :=
  ⟨(Blk.new w T _).row (vs := strs other.names) rfl, fun s hs => by simp [other] at hs; subst hs; simp [maxLen]⟩
theorem cntd_pos {p : PR} (h : validP p) : cntd p = p := by unfold cntd; rw [if_pos h]
theorem cntd_neg {p : PR} (h : ¬ validP p) : cntd p = other := by unfold cntd; rw [if_neg h]
def RetPr (w : World) (p : PR) (e : Ending) (w' : World) : Prop := ∃ x : PA, e = .returned (x.val p) ∧ PrAt w' w'.heap.size x p ∧ Below w.heap.size w w'
set_option maxRecDepth 100000 in
set_option maxHeartbeats 1000000 in
theorem counted_any (x : PA) (p : PR) (w : World) (h : PrAt w w.heap.size x p) (hsp : p.spans.length ≤ 100000) :
    Calls Try.prog 114 #[x.val p] w (RetPr w (cntd p)) := by
  have CV := Lib.hid (fun (u : World) (hu : Below w.heap.size w u) (v : Bool) (hv : v = true ↔ validP p) => rvalidP_any x p u (h.below hu).lt hsp v hv)
  have HP := Lib.hid h
  unfold PA.val at CV ⊢
  obtain ⟨w1, hw1, HB1, HK1⟩ := boxV w 41 #[.slice x.n p.names.length x.cn, .slice x.s p.spans.length x.cs]
  obtain ⟨w2, hw2, HB2', HK2'⟩ := boxV w1 41 #[.slice none 0 0, .slice none 0 0]
  have HB2 := Lib.hid (HB1.out.trans (HB2'.out.mono HB1.out.size))
  have HK2 := Lib.hid (HK1.out.after HB2'.out)
  obtain ⟨q0, q1, ql⟩ := blk2 HK2.out
  have hs1 : w1.heap.size = w.heap.size + 1 := by rw [hw1]; simp
  obtain ⟨g, hg⟩ : ∃ g, g = w1.heap.size := ⟨_, rfl⟩
  rw [← hg] at HK2'
  have hgw : g = w.heap.size + 1 := by omega
  have HGW := Lib.hid hgw
  clear h
  go_enter Try.func114, Try.ntmps114
  go_upto_region 1 with fail
  rw [← hw1, ← hw2, ← hgw]
  clear hw1 hw2 hs1 hg hgw
  by_cases hv : validP p
  · have HC := Lib.hid (cntd_pos hv)
    go_wp2_with fail
    refine (CV.out w2 HB2.out true ⟨fun _ => hv, fun _ => rfl⟩).mono ?_
    rintro e w3 ⟨rfl, hb3⟩
    have HB3 := Lib.hid (HB2.out.trans (hb3.mono HB2.out.size))
    have HK3 := Lib.hid (HK2.out.after hb3)
    have HK3' := Lib.hid (HK2'.out.after hb3)
    clear hb3 q0 q1 ql
    obtain ⟨q0, q1, ql⟩ := blk2 HK3.out
    obtain ⟨r0, r1, rl⟩ := blk2 HK3'.out
    have f0 := HK3'.out.free 0
    have f1 := HK3'.out.free 1
    go_wp2
    obtain ⟨w4, hw4, HK4, HB4⟩ : ∃ u, u = (w3.setCell ⟨g, 0, none⟩ (.slice x.n p.names.length x.cn)).setCell ⟨g, 1, none⟩ (.slice x.s p.spans.length x.cs) ∧ Hid (Blk u g 41 #[.slice x.n p.names.length x.cn, .slice x.s p.spans.length x.cs]) ∧ Hid (Below w.heap.size w u) :=
      ⟨_, rfl, (HK3'.out.set_ 0 _).set_ 1 _, (HB3.out.setCell (p := ⟨g, 0, none⟩) (by show _ ≤ g; have := HGW.out; omega) _).setCell (p := ⟨g, 1, none⟩) (by show _ ≤ g; have := HGW.out; omega) _⟩
    rw [← hw4]
    clear hw4
    obtain ⟨s0, s1, sl⟩ := blk2 HK4.out
    refine bodyPost_ret (v := .agg #[.slice x.n p.names.length x.cn, .slice x.s p.spans.length x.cs]) ?_ rfl ⟨x, ?_, ?_, HB4.out⟩
    · simp [results, Try.results114, go_sem, s0, s1]
    · rw [HC.out]
      rfl
    · rw [HC.out]
      exact (HP.out.below HB4.out).lt
  · have HC := Lib.hid (cntd_neg hv)
    go_wp2_with fail
    refine (CV.out w2 HB2.out false ⟨fun h => (by cases h), fun h => absurd h hv⟩).mono ?_
    rintro e w3 ⟨rfl, hb3⟩
    have HB3 := Lib.hid (HB2.out.trans (hb3.mono HB2.out.size))
    have HK3 := Lib.hid (HK2.out.after hb3)
    have HK3' := Lib.hid (HK2'.out.after hb3)
    clear hb3 q0 q1 ql
    obtain ⟨r0, r1, rl⟩ := blk2 HK3'.out
    have f0 := HK3'.out.free 0
    have f1 := HK3'.out.free 1
    have hgw : w.heap.size ≤ g := by have := HGW.out; omega
    obtain ⟨w6, hw6, HK6, HB6, HS6⟩ : ∃ u, u = ((w3.setCell ⟨g, 0, none⟩ (.slice (some ⟨w3.heap.size, 0, none⟩) 1 1)).setCell ⟨g, 1, none⟩ (.slice none 0 0)).alloc (.cells #[.string ⟨#[79, 116, 104, 101, 114]⟩] 9) ∧ Hid (Blk u g 41 #[.slice (some ⟨w3.heap.size, 0, none⟩) 1 1, .slice none 0 0]) ∧ Hid (Below w.heap.size w u) ∧ Hid (StrsAt u u.heap.size (some ⟨w3.heap.size, 0, none⟩) other.names) := by
      refine ⟨_, rfl, ((HK3'.out.set_ 0 _).set_ 1 _).alloc _, ?_, ?_⟩
      · have := (HB3.out.setCell (p := ⟨g, 0, none⟩) hgw (.slice (some ⟨w3.heap.size, 0, none⟩) 1 1)).setCell (p := ⟨g, 1, none⟩) hgw (.slice none 0 0)
        exact this.alloc this.size _
      · have := other_at (w := (w3.setCell ⟨g, 0, none⟩ (.slice (some ⟨w3.heap.size, 0, none⟩) 1 1)).setCell ⟨g, 1, none⟩ (.slice none 0 0)) (T := 9)
        refine Lib.hid ?_
        simpa using this
    go_wp2
    rw [← hw6]
    clear hw6
    obtain ⟨s0, s1, sl⟩ := blk2 HK6.out
    refine bodyPost_ret (v := .agg #[.slice (some ⟨w3.heap.size, 0, none⟩) 1 1, .slice none 0 0]) ?_ rfl ⟨⟨some ⟨w3.heap.size, 0, none⟩, none, 1, 0⟩, ?_, ?_, HB6.out⟩
    · simp [results, Try.results114, go_sem, s0, s1]
    · rw [HC.out]
      rfl
    · rw [HC.out]
      exact ⟨⟨HS6.out, by simp [other], by simp [maxLen]⟩, Row.nil, by simp [other], by simp [maxLen]⟩
theorem getS_hit {l : List (Int × Int × Int)} {c : Int} {k : Nat} {s : Int × Int × Int} (h : ∀ q ∈ l.take k, ¬ (q.1 ≤ c ∧ c ≤ q.2.1)) (hk : l[k]? = some s) (hs : s.1 ≤ c ∧ c ≤ s.2.1) : getS l c = s.2.2 := by
  obtain ⟨h1, h2⟩ := List.getElem?_eq_some_iff.1 hk
  unfold getS
  rw [← List.take_append_drop k l, List.drop_eq_getElem_cons h1, h2, List.find?_append, List.find?_eq_none.2 (fun q hq => by simpa using h q hq)]
  simp [hs]
theorem getS_miss {l : List (Int × Int × Int)} {c : Int} (h : ∀ q ∈ l, ¬ (q.1 ≤ c ∧ c ≤ q.2.1)) : getS l c = 0 := by
  unfold getS
  rw [List.find?_eq_none.2 (fun q hq => by simpa using h q hq)]
  rfl
theorem cntd_len {p : PR} (h : p.spans.length ≤ 100000) : (cntd p).spans.length ≤ 100000 := by
  by_cases hv : validP p
  · rw [cntd_pos hv]; exact h
  · rw [cntd_neg hv]; simp [other]
set_option maxRecDepth 100000 in
set_option maxHeartbeats 2000000 in
theorem get10_any (x : PA) (p : PR) (c : Int) (w : World) (h : PrAt w w.heap.size x p) (hsp : p.spans.length ≤ 100000) :
    Calls Try.prog 115 #[x.val p, .int .i64 c] w fun e w' => e = .returned (.int .i64 (getS (cntd p).spans c)) ∧ Below w.heap.size w w' := by
  have CC := Lib.hid (fun (u : World) (hu : Below w.heap.size w u) => counted_any x p u (h.below hu).lt hsp)
  unfold PA.val at CC ⊢
  unfold RetPr at CC
  have hcl := cntd_len hsp
  obtain ⟨P, hP⟩ : ∃ P, cntd p = P := ⟨_, rfl⟩
  rw [hP] at CC hcl ⊢
  obtain ⟨w1, hw1, HB1, HK1⟩ := boxV w 41 #[.slice x.n p.names.length x.cn, .slice x.s p.spans.length x.cs]
  obtain ⟨q0, q1, ql⟩ := blk2 HK1.out
  clear h hP
  go_enter Try.func115, Try.ntmps115
  go_upto_region 1 with fail
  rw [← hw1]
  clear hw1
  go_wp2_with fail
  refine (CC.out w1 HB1.out).mono ?_
  rintro e w2 ⟨⟨yn, ys, ycn, ycs⟩, rfl, hp2, hb2⟩
  have HP2 := Lib.hid hp2
  have HB2 := Lib.hid (HB1.out.trans (hb2.mono HB1.out.size))
  obtain ⟨m, hm⟩ : ∃ n, P.spans.length = n := ⟨_, rfl⟩
  have HM := Lib.hid hm
  unfold PA.val
  simp only
  obtain ⟨w3, hw3, HB3, HK3⟩ := boxV w2 41 #[.slice yn P.names.length ycn, .slice ys P.spans.length ycs]
  rw [hm] at hw3 HK3 hcl ⊢
  have hcs := hp2.2.2
  rw [hm] at hcs
  simp only at hcs
  unfold maxLen at hcs
  have HBw3 := Lib.hid (HB2.out.trans (HB3.out.mono HB2.out.size))
  have HS3 := Lib.hid (hp2.2.1.below HB3.out)
  simp only at HS3
  have hbs2 := HB3.out.size
  clear hm hp2 hb2 q0 q1 ql
  go_upto_region 2 with fail
  rw [← hw3]
  clear hw3
  obtain ⟨q0, q1, ql⟩ := blk2 HK3.out
  go_wp2
  go_loopw [6] (fun i wr => ∃ k : Nat, k ≤ m ∧ i = .int .i64 (k : Int) ∧ Hid (∀ q ∈ P.spans.take k, ¬ (q.1 ≤ c ∧ c ≤ q.2.1)) ∧ wr = w3) (fun i _ => m - (intOf i).toNat)
  case atStart => exact ⟨0, by omega, rfl, fun r hr => by simp at hr, rfl⟩
  case round =>
    obtain ⟨k, hk, rfl, HK, hw⟩ := hrel
    subst wr
    by_cases hkm : k < m
    · obtain ⟨b, o, lo, hi, va, rfl, hb, hx, cc0, cc1, cc2⟩ := HS3.out.at_spn (k := k) (by rw [HM.out]; exact hkm)
      have hbw : b < w3.heap.size := by omega
      by_cases g1 : lo ≤ c
      · have d1 : decide (lo ≤ c) = true := decide_eq_true g1
        by_cases g2 : c ≤ hi
        · have HF := Lib.hid (getS_hit HK.out hx.out ⟨g1, g2⟩)
          have d2 : decide (c ≤ hi) = true := decide_eq_true g2
          go_wp2
          go_ret
          exact ⟨ret_int HF.out.symm, HBw3.out⟩
        · have d2 : decide (c ≤ hi) = false := decide_eq_false g2
          have HK' := Lib.hid (all_snoc (P := fun q : Int × Int × Int => ¬ (q.1 ≤ c ∧ c ≤ q.2.1)) HK.out hx.out (fun h => g2 h.2))
          go_wp2
          go_roundw
          case rel => exact ⟨k + 1, by omega, by go_num, HK', by trivial⟩
          case measure => simp [intOf]; omega
      · have d1 : decide (lo ≤ c) = false := decide_eq_false g1
        have HK' := Lib.hid (all_snoc (P := fun q : Int × Int × Int => ¬ (q.1 ≤ c ∧ c ≤ q.2.1)) HK.out hx.out (fun h => g1 h.1))
        go_wp2
        go_roundw
        case rel => exact ⟨k + 1, by omega, by go_num, HK', by trivial⟩
        case measure => simp [intOf]; omega
    · have HF := Lib.hid (getS_miss (all_take HK.out (by rw [HM.out]; omega)))
      go_wp2
      go_ret
      exact ⟨ret_int HF.out.symm, HBw3.out⟩
theorem getS_fit {n : Nat} {l : List (Int × Int × Int)} (h : ∀ s ∈ l, spanOk n s) (hn : 1 ≤ n) (c : Int) : 0 ≤ getS l c ∧ getS l c < (n : Int) := by
  unfold getS
  cases hf : l.find? fun s => decide (s.1 ≤ c) && decide (c ≤ s.2.1) with
  | none => simp; omega
  | some s =>
    have := h s (List.mem_of_find?_eq_some hf)
    unfold spanOk at this
    simp
    omega
theorem cntd_valid (p : PR) : validP (cntd p) ∨ cntd p = other := by
  by_cases hv : validP p
  · exact .inl (by rw [cntd_pos hv]; exact hv)
  · exact .inr (cntd_neg hv)
theorem getV_fit (p : PR) (c : Int) : 0 ≤ getS (cntd p).spans c ∧ getS (cntd p).spans c < ((cntd p).names.length : Int) := by
  rcases cntd_valid p with h | h
  · exact getS_fit h.2.1 h.1.1.1 c
  · rw [h]; simp [other, getS]
theorem cntd_mx {w : World} {B : Nat} {x : PA} {p : PR} (h : PrAt w B x p) : ∀ s ∈ p.names, s.length ≤ maxLen := h.1.1.2
set_option maxRecDepth 100000 in
set_option maxHeartbeats 2000000 in
theorem name10_any (x : PA) (p : PR) (c : Int) (w : World) (h : PrAt w w.heap.size x p) (hsp : p.spans.length ≤ 100000) :
    Calls Try.prog 101 #[x.val p, .int .i64 c] w fun e w' => e = .returned (.string ⟨(nameV p c).toArray⟩) ∧ Below w.heap.size w w' := by
  have CC := Lib.hid (fun (u : World) (hu : Below w.heap.size w u) => counted_any x p u (h.below hu).lt hsp)
  have CG := Lib.hid (fun (u : World) (hu : Below w.heap.size w u) => get10_any x p c u (h.below hu).lt hsp)
  unfold PA.val at CC CG ⊢
  unfold RetPr at CC
  have hgf := getV_fit p c
  obtain ⟨P, hP⟩ : ∃ P, cntd p = P := ⟨_, rfl⟩
  rw [hP] at CC CG hgf
  obtain ⟨gv, hgv⟩ : ∃ gv, getS P.spans c = gv := ⟨_, rfl⟩
  rw [hgv] at CG hgf
  obtain ⟨gn, rfl⟩ : ∃ gn : Nat, gv = (gn : Int) := ⟨gv.toNat, by omega⟩
  obtain ⟨nm, hnm⟩ : ∃ nm, P.names[gn]? = some nm := ⟨_, List.getElem?_eq_getElem (by omega)⟩
  have HNV : Hid (nameV p c = nm) := by
    show _ = _
    unfold nameV
    rw [hP, hgv, Int.toNat_natCast, List.getD_eq_getElem?_getD, hnm]
    rfl
  have HNM := Lib.hid hnm
  obtain ⟨w1, hw1, HB1, HK1⟩ := boxV w 41 #[.slice x.n p.names.length x.cn, .slice x.s p.spans.length x.cs]
  have hbs1 := HB1.out.size
  clear h hP hgv hnm
  go_enter Try.func101, Try.ntmps101
  go_upto_region 1 with fail
  rw [← hw1]
  clear hw1
  refine wp_region_tree (fun w' => Blk w' w.heap.size 41 #[.slice x.n p.names.length x.cn, .slice x.s p.spans.length x.cs]) (.float 0 (.float 3 (.float 4 (.one 1 (.more (.float 2 (.one 5 (.float 6 (.float 7 (.float 8 .done)))))))))) (by kernel_rfl) (by kernel_rfl) (fun _ _ d _ _ h => by cases d <;> exact h) HK1.out.drew ?_
  repeat (first
    | (refine wpTr_fskip (by simp only [List.getElem?_toArray, List.getElem?_cons_zero, List.getElem?_cons_succ]; rfl) (by rfl) ?_
       simp only [Act.put, List.setIfInBounds_toArray, List.set_cons_zero, List.set_cons_succ])
    | (refine wpTr_float (v := ?_) (by simp only [List.getElem?_toArray, List.getElem?_cons_zero, List.getElem?_cons_succ]; rfl) (by rfl) (fun w' hS => ?_) ?_
       rotate_left
       ((obtain ⟨e0', e1', el'⟩ := blk2 hS); go_simp; first | done | rfl)
       simp only [Act.put, List.setIfInBounds_toArray, List.set_cons_zero, List.set_cons_succ]))
  refine wpTr_one ?_
  refine stepTr_K (by simp only [List.getElem?_toArray, List.getElem?_cons_zero, List.getElem?_cons_succ]; rfl) (by rfl) (fun K hK => ?_)
  go_simp
  refine (CC.out w1.drew HB1.out.drew).mono ?_
  rintro e w2 ⟨⟨yn, ys, ycn, ycs⟩, rfl, hp2, hb2⟩
  have HBL2 : Hid (Below w1.heap.size w1 w2) := (Below.refl _ _).drew.trans hb2
  have HB2 := Lib.hid (HB1.out.trans (HBL2.out.mono hbs1))
  have HK2 := Lib.hid (HK1.out.after HBL2.out)
  have hbs2 := HB2.out.size
  obtain ⟨b, o, nm', hA, hb, hx, cc⟩ := hp2.1.1.1.at_str (k := gn) (by omega)
  simp only at hA
  subst hA
  obtain rfl : nm' = nm := by
    have := hx.out
    rw [HNM.out] at this
    injection this with this
    exact this.symm
  refine hK.out _ _ HK2.out ?_
  clear hK K hb2 hp2
  unfold PA.val
  simp only
  obtain ⟨nn, hnn⟩ : ∃ nn, P.names.length = nn := ⟨_, rfl⟩
  have hgn : gn < nn := by omega
  rw [hnn]
  clear hnn hgf
  refine wpTr_more (fun w' => Blk w' w.heap.size 41 #[.slice x.n p.names.length x.cn, .slice x.s p.spans.length x.cs] ∧ w'.cell? ⟨b, o + gn, none⟩ = some (.string ⟨nm'.toArray⟩)) (fun _ h => h.1) ⟨HK2.out, cc⟩ ?_
  try simp only [Act.put, List.setIfInBounds_toArray, List.set_cons_zero, List.set_cons_succ]
  repeat (first
    | (refine wpTr_fskip (by simp only [List.getElem?_toArray, List.getElem?_cons_zero, List.getElem?_cons_succ]; rfl) (by rfl) ?_
       simp only [Act.put, List.setIfInBounds_toArray, List.set_cons_zero, List.set_cons_succ])
    | (refine wpTr_float (v := ?_) (by simp only [List.getElem?_toArray, List.getElem?_cons_zero, List.getElem?_cons_succ]; rfl) (by rfl) (fun w' hS => ?_) ?_
       rotate_left
       ((obtain ⟨hSK, e3'⟩ := hS; obtain ⟨e0', e1', el'⟩ := blk2 hSK); go_simp; first | done | rfl)
       simp only [Act.put, List.setIfInBounds_toArray, List.set_cons_zero, List.set_cons_succ]))
  refine wpTr_one ?_
  refine stepTr_K (by simp only [List.getElem?_toArray, List.getElem?_cons_zero, List.getElem?_cons_succ]; rfl) (by rfl) (fun K hK => ?_)
  go_simp
  refine (CG.out w2 HB2.out).mono ?_
  rintro e w3 ⟨rfl, hb3⟩
  have HB3 := Lib.hid (HB2.out.trans (hb3.mono hbs2))
  have HK3 := Lib.hid (HK2.out.after hb3)
  have cc3 := (hb3.cell (p := ⟨b, o + gn, none⟩) hb).trans cc
  refine hK.out _ _ ⟨HK3.out, cc3⟩ ?_
  clear hK K hb3
  try simp only [Act.put, List.setIfInBounds_toArray, List.set_cons_zero, List.set_cons_succ]
  repeat (first
    | (refine wpTr_fskip (by simp only [List.getElem?_toArray, List.getElem?_cons_zero, List.getElem?_cons_succ]; rfl) (by rfl) ?_
       simp only [Act.put, List.setIfInBounds_toArray, List.set_cons_zero, List.set_cons_succ])
    | (refine wpTr_float (v := ?_) (by simp only [List.getElem?_toArray, List.getElem?_cons_zero, List.getElem?_cons_succ]; rfl) (by rfl) (fun w' hS => ?_) ?_
       rotate_left
       ((obtain ⟨hSK, e3'⟩ := hS; obtain ⟨e0', e1', el'⟩ := blk2 hSK); go_simp; first | done | rfl)
       simp only [Act.put, List.setIfInBounds_toArray, List.set_cons_zero, List.set_cons_succ]))
  refine wpTr_done ?_
  go_wp2
  go_ret
  rw [HNV.out]
  exact ⟨rfl, HB3.out⟩
set_option maxRecDepth 100000 in
theorem few10_any (x : PA) (p : PR) (k : Nat) (w : World) (v : Bool) (hv : v = true ↔ p.names.length ≤ 300 ∧ p.spans.length ≤ k) :
    Calls Try.prog 19 #[x.val p, .int .i64 (k : Int)] w fun e w' => e = .returned (.bool v) ∧ Below w.heap.size w w' := by
  unfold PA.val
  have HV := Lib.hid hv
  obtain ⟨n, hn⟩ : ∃ n, p.names.length = n := ⟨_, rfl⟩
  obtain ⟨m, hm⟩ : ∃ n, p.spans.length = n := ⟨_, rfl⟩
  rw [hn, hm] at HV
  rw [hn, hm]
  clear hv hn hm
  obtain ⟨w1, hw1, HB1, HK1⟩ := boxV w 41 #[.slice x.n n x.cn, .slice x.s m x.cs]
  obtain ⟨q0, q1, ql⟩ := blk2 HK1.out
  by_cases g1 : n ≤ 300
  · have HF : Hid (v = decide (m ≤ k)) := by
      refine bool_iff ?_
      rw [HV.out, decide_eq_true_iff]
      exact ⟨fun h => h.2, fun h => ⟨g1, h⟩⟩
    have d1 : decide ((n : Int) ≤ 300) = true := decide_eq_true (by omega)
    go_enter Try.func19, Try.ntmps19
    go_upto_region 1 with fail
    rw [← hw1]
    clear hw1
    go_wp2
    go_ret
    refine ⟨ret_bool ?_, HB1.out⟩
    rw [HF.out, Bool.eq_iff_iff]
    first | done | simp
  · have HF : Hid (v = false) := bool_neg HV.out (fun h => g1 h.1)
    have d1 : decide ((n : Int) ≤ 300) = false := decide_eq_false (by omega)
    go_enter Try.func19, Try.ntmps19
    go_upto_region 1 with fail
    rw [← hw1]
    clear hw1
    go_wp2
    go_ret
    exact ⟨ret_bool HF.out.symm, HB1.out⟩
theorem few01_any (A : Option Addr) (n c k : Nat) (w : World) : Calls Try.prog 32 #[.slice A n c, .int .i64 (k : Int)] w fun e w' => e = .returned (.bool (decide (n ≤ k))) ∧ w' = w := by
  go_enter Try.func32, Try.ntmps32
  go_wp2
  go_ret
  refine ⟨ret_bool ?_, rfl⟩
  rw [Bool.eq_iff_iff]
  first | done | simp
end Go.Proofs.Ytkoojoogddndnaa
