/-
  transrule.checked, transrule.Check: the first error of rules.
-/
import Derived.Test.YtjohoohdjlajcaaProg
import Derived.Test.YtjohoohdjlajcaaBase
import Derived.Test.YtjohoohdjlajcaaOwn
import Derived.Test.YtjohoohdjlajcaaCp1
import Derived.Test.YtjohoohdjlajcaaCr3
import Derived.Test.YtjohoohdjlajcaaTd1
import Derived.Test.YtjohoohdjlajcaaTd2
import Derived.Test.YtjohoohdjlajcaaTs0
import Derived.Laws.OwnMore
import Derived.WalkKit
import Derived.Deep.QuietTactic
import Derived.BigQuiet
import Derived.Deep.DeepCutAuto
import Derived.KernelRfl
import Derived.Outline
import Derived.IntWalk
import Derived.Laws.Cover1
namespace Go.UtYtjohoohdjlajcaa
open Go.RowKit
/-- the cells of sets -/
def SetsV (w : World) (B : Nat) (vs : List Value) (sets : List (List Rg)) : Prop :=
  vs.length = sets.length ∧ ∀ (k : Nat) (s : List Rg), sets[k]? = some s → ∃ A' c', vs[k]? = some (.slice A' s.length c') ∧ s.length ≤ c' ∧ c' ≤ maxLen ∧ Row w B A' (prs s)
section
variable {w w' : World} {B : Nat} {A : Option Addr}
theorem SetsAt.cells {sets : List (List Rg)} (h : SetsAt w B A sets) : ∃ vs, SetsV w B vs sets ∧ Row w B A vs := by
  obtain ⟨vs, h1, h2, h3⟩ := h
  exact ⟨vs, ⟨h1, h3⟩, h2⟩
theorem SetsV.at_ {vs : List Value} {sets : List (List Rg)} (h : SetsV w B vs sets) (hr : Row w B A vs) : SetsAt w B A sets := ⟨vs, h.1, hr, h.2⟩
theorem SetsV.append {va vb : List Value} {a b : List (List Rg)} (h1 : SetsV w B va a) (h2 : SetsV w B vb b) : SetsV w B (va ++ vb) (a ++ b) := by
  refine ⟨by simp [h1.1, h2.1], fun k s hs => ?_⟩
  by_cases hk : k < a.length
  · rw [List.getElem?_append_left hk] at hs
    rw [List.getElem?_append_left (by rw [h1.1]; exact hk)]
    exact h1.2 k s hs
  · rw [List.getElem?_append_right (by omega)] at hs
    rw [List.getElem?_append_right (by have := h1.1; omega), h1.1]
    exact h2.2 _ s hs
theorem SetsV.one {vs : List Value} {sets : List (List Rg)} (h : SetsV w B vs sets) : ∀ u ∈ vs, u.oneCell' = true := by
  intro u hu
  obtain ⟨k, hk, rfl⟩ := List.getElem_of_mem hu
  obtain ⟨A', c', h1, _⟩ := h.2 k _ (List.getElem?_eq_getElem (by have := h.1; omega))
  rw [List.getElem?_eq_getElem hk] at h1
  injection h1 with h1
  rw [show vs[k] = _ from h1]
  rfl
theorem SetsV.below {vs : List Value} {sets : List (List Rg)} (h : SetsV w B vs sets) (hb : Below B w w') : SetsV w' B vs sets := by
  refine ⟨h.1, fun k s hs => ?_⟩
  obtain ⟨A', c', g1, g2, g3, g4⟩ := h.2 k s hs
  exact ⟨A', c', g1, g2, g3, g4.below hb⟩
theorem SetsV.more {vs : List Value} {sets : List (List Rg)} {B' : Nat} (h : SetsV w B vs sets) (hB : B ≤ B') : SetsV w B' vs sets := by
  refine ⟨h.1, fun k s hs => ?_⟩
  obtain ⟨A', c', g1, g2, g3, g4⟩ := h.2 k s hs
  exact ⟨A', c', g1, g2, g3, g4.more hB⟩
end
theorem max3_int {P : Program} (w : World) (ts : Array TypeId) (t : TypeId) (k k' k'' : IntKind) (x y z : Int) : (Builtin.max_ ts t #[.int k x, .int k' y, .int k'' z]).run P w = .ok (.int k (max (max x y) z)) w := by
  rw [run_max_int3]
  congr 2
  split <;> split <;> omega
/-- sets of at most 12 ranges -/
def smS (l : List (List Rg)) : Prop := ∀ s ∈ l, s.length ≤ 12
theorem setsOk_iff {r : TR} : setsOk r ↔ ∀ s ∈ r.bef ++ r.mat ++ r.aft, okS s := by
  constructor
  · intro ⟨h1, h2, h3⟩ s hs
    simp only [List.mem_append] at hs
    rcases hs with (hs | hs) | hs
    · exact h1 s hs
    · exact h2 s hs
    · exact h3 s hs
  · intro h
    exact ⟨fun s hs => h s (by simp [hs]), fun s hs => h s (by simp [hs]), fun s hs => h s (by simp [hs])⟩
end Go.UtYtjohoohdjlajcaa
namespace Go.Proofs.Ytjohoohdjlajcaa
open Go.RowKit Go.UtYtjohoohdjlajcaa
attribute [local go_sem high] max3_int
set_option maxRecDepth 100000 in
set_option maxHeartbeats 1000000 in
theorem checked_any (r : TR) (vs : List Value) (w : World) (hR : RuleAt w w.heap.size vs r) (hb : smS r.bef) (hm : smS r.mat) (ha : smS r.aft) :
    Calls Try.prog 42 #[.agg vs.toArray] w fun e w' => e = .returned (.int .i64 (chk1 r)) ∧ Below w.heap.size w w' := by
  obtain ⟨Ab, cb, Am, cm, Aa, ca, Ar, cr, rfl, ⟨rb, rm, ra, rr⟩, ⟨b1, b2⟩, ⟨m1, m2⟩, ⟨a1, a2⟩, ⟨r1, r2⟩⟩ := hR
  obtain ⟨vb, sb, rb⟩ := rb.cells
  obtain ⟨vm, sm, rm⟩ := rm.cells
  obtain ⟨va, sa, ra⟩ := ra.cells
  have hS : Hid (SetsV w w.heap.size (vb ++ vm ++ va) (r.bef ++ r.mat ++ r.aft)) := (sb.append sm).append sa
  have SB := Lib.hid sb
  have SM := Lib.hid sm
  have SA := Lib.hid sa
  have RB := Lib.hid rb
  have RM := Lib.hid rm
  have RA := Lib.hid ra
  have RR := Lib.hid rr
  have lb := Lib.hid sb.1
  have lm := Lib.hid sm.1
  have la := Lib.hid sa.1
  have HSM : Hid (smS (r.bef ++ r.mat ++ r.aft)) := fun s hs => by
    simp only [List.mem_append] at hs
    rcases hs with (hs | hs) | hs
    · exact hb s hs
    · exact hm s hs
    · exact ha s hs
  clear rb rm ra rr sb sm sa hb hm ha
  unfold maxLen at b2 m2 a2 r2
  obtain ⟨w1, h1, HB1, HX1⟩ : ∃ w1, w1 = w.alloc (.cells #[.slice Ab r.bef.length cb, .slice Am r.mat.length cm, .slice Aa r.aft.length ca, .slice Ar r.res.length cr] 41) ∧ Hid (Below w.heap.size w w1) ∧ Hid (Blk w1 w.heap.size 41 #[.slice Ab r.bef.length cb, .slice Am r.mat.length cm, .slice Aa r.aft.length ca, .slice Ar r.res.length cr]) := ⟨_, rfl, (Below.refl _ _).alloc (Nat.le_refl _) _, Blk.new _ _ _⟩
  obtain ⟨nb, hnb⟩ : ∃ n, r.bef.length = n := ⟨_, rfl⟩
  obtain ⟨nm, hnm⟩ : ∃ n, r.mat.length = n := ⟨_, rfl⟩
  obtain ⟨na, hna⟩ : ∃ n, r.aft.length = n := ⟨_, rfl⟩
  obtain ⟨nr, hnr⟩ : ∃ n, r.res.length = n := ⟨_, rfl⟩
  rw [hnb] at b1
  rw [hnm] at m1
  rw [hna] at a1
  rw [hnr] at r1
  rw [hnb, hnm, hna, hnr] at h1 HX1 ⊢
  have e0 := HX1.out.cell 0
  have e1 := HX1.out.cell 1
  have e2 := HX1.out.cell 2
  have e3 := HX1.out.cell 3
  simp at e0 e1 e2 e3
  by_cases s1 : nm < 1
  · have HF : Hid (chk1 r = 2) := chk1_size (fun h => by have := h.1; omega)
    go_enter Try.func42, Try.ntmps42
    go_wp2
    go_ret
    exact ⟨by rw [HF.out]; rfl, by rw [← h1]; exact HB1.out⟩
  · by_cases s2 : max (max (nb : Int) nm) na ≤ 8
    · by_cases s3 : (nr : Int) ≤ 16
      · have hsz0 : Hid (sizeOk r) := ⟨by omega, by omega, by omega, by omega, by omega⟩
        obtain ⟨ps, hps, hslv, hslc⟩ : ∃ ps : List (Option Addr × Nat × List Value), Hid (ps = [(Ab, cb, vb), (Am, cm, vm), (Aa, ca, va)]) ∧ Hid (slv ps = [.slice Ab nb cb, .slice Am nm cm, .slice Aa na ca]) ∧ Hid (slc ps = vb ++ vm ++ va) := by
          refine ⟨_, rfl, ?_, ?_⟩
          · show _ = _
            simp [slv, lb.out, lm.out, la.out, hnb, hnm, hna]
          · show _ = _
            simp [slc]
        have hpl : ps.length = 3 := by rw [hps.out]; rfl
        obtain ⟨nn, hnn⟩ : ∃ nn, nn = nb + nm + na := ⟨_, rfl⟩
        have hN : (slc ps).length = nn := by rw [hslc.out, hnn]; simp [lb.out, lm.out, la.out, hnb, hnm, hna]; omega
        have hnn2 : nn ≤ 24 := by omega
        have HNN := Lib.hid hnn
        clear hnn
        obtain ⟨w2, h2, HB2, HX2, HR2, hs2⟩ : ∃ w2, w2 = w1.alloc (.cells #[.slice Ab nb cb, .slice Am nm cm, .slice Aa na ca] 38) ∧ Hid (Below w.heap.size w w2) ∧ Hid (Blk w2 w.heap.size 41 #[.slice Ab nb cb, .slice Am nm cm, .slice Aa na ca, .slice Ar nr cr]) ∧ Hid (Row w2 w2.heap.size (some ⟨w1.heap.size, 0, none⟩) (slv ps)) ∧ Hid (w1.heap.size = w.heap.size + 1) := by
          refine ⟨_, rfl, HB1.out.alloc HB1.out.size _, HX1.out.alloc _, ?_, ?_⟩
          · exact (Blk.new w1 _ _).row (by rw [hslv.out])
          · show _ = _
            rw [h1]
            simp
        have HC := concat_any (some ⟨w1.heap.size, 0, none⟩) 3 w2.heap.size ps w2 HR2.out (Nat.le_refl _) (fun p hp => by
          rw [hps.out] at hp
          simp only [List.mem_cons, List.not_mem_nil, or_false] at hp
          rcases hp with rfl | rfl | rfl
          · exact ⟨(RB.out.below HB2.out).more HB2.out.size, SB.out.one⟩
          · exact ⟨(RM.out.below HB2.out).more HB2.out.size, SM.out.one⟩
          · exact ⟨(RA.out.below HB2.out).more HB2.out.size, SA.out.one⟩) (by omega) (by omega)
        rw [hpl, hN] at HC
        have HC := Lib.hid HC
        go_enter Try.func42, Try.ntmps42
        go_wp2_with (first | (go_at_call 50; rw [← h1]; rw [← hs2.out]; rw [← h2]; refine HC.out.mono ?_; rintro e w3 ⟨A3, c3, rfl, g1, g2, g3, g4⟩))
        obtain ⟨sets, hsets⟩ : ∃ sets, Hid (sets = r.bef ++ r.mat ++ r.aft) := ⟨_, rfl⟩
        have hsl : sets.length = nn := by rw [hsets.out, HNN.out]; simp [hnb, hnm, hna]; omega
        have HB3 := Lib.hid (HB2.out.trans (g4.mono HB2.out.size))
        have HX3 := Lib.hid (HX2.out.after g4)
        have HS3 : Hid (SetsAt w3 w3.heap.size A3 sets) := by
          have := ((hS.out.below HB3.out).more HB3.out.size)
          rw [← hsets.out] at this
          exact this.at_ (by rw [← hslc.out]; exact g3)
        have RR3 := Lib.hid ((RR.out.below HB3.out).more HB3.out.size)
        rw [← hsets.out] at HSM
        have f0 := HX3.out.cell 3
        have f1 := HX3.out.cell 1
        have f2 := HX3.out.lt
        simp at f0 f1
        clear e0 e1 e2 e3 h1 h2 HC g1 g2 g3 g4 hN hslv hslc
        go_wp2_with fail
        go_loopw [39] (fun i wr => ∃ k : Nat, k ≤ nn ∧ i = .int .i64 (k : Int) ∧ Hid (∀ s ∈ sets.take k, okS s) ∧ Hid (Below w3.heap.size w3 wr)) (fun i _ => nn - (intOf i).toNat)
        case atStart => exact ⟨0, by omega, rfl, fun s hs => by simp at hs, Below.refl _ _⟩
        case round =>
          obtain ⟨k, hk, rfl, HK, HB⟩ := hrel
          by_cases h1 : k < nn
          · obtain ⟨b, o, A', c', s, rfl, hb, hx, cc, l1, l2, HR⟩ := (HS3.out.below HB.out).at_ (k := k) (by omega)
            have hs12 := HSM.out s (List.mem_of_getElem? hx.out)
            have hbs := HB.out.size
            unfold maxLen at l2
            obtain ⟨ns, hns⟩ : ∃ n, s.length = n := ⟨_, rfl⟩
            rw [hns] at cc l1 hs12
            obtain ⟨w4, h4, HB4, HX4, HR4⟩ : ∃ w4, w4 = wr.alloc (.cells #[.slice A' ns c'] 45) ∧ Hid (Below w3.heap.size w3 w4) ∧ Hid (Blk w4 wr.heap.size 45 #[.slice A' ns c']) ∧ Hid (Row w4 w4.heap.size A' (prs s)) := by
              have q : Below wr.heap.size wr (wr.alloc (.cells #[.slice A' ns c'] 45)) := (Below.refl _ _).alloc (Nat.le_refl _) _
              exact ⟨_, rfl, HB.out.alloc hbs _, Blk.new _ _ _, (HR.out.more hbs |>.below q).lt⟩
            by_cases hc : Cnn s
            · have HV := Lib.hid (validS_any A' ns c' s hns.symm w4 HR4.out (by omega) true ⟨fun _ => hc, fun _ => rfl⟩)
              by_cases hl : ns = 0
              · subst hl
                have HF : Hid (chk1 r = 11) := chk1_sets hsz0.out (fun h => by
                  rw [setsOk_iff, ← hsets.out] at h
                  have := (h s (List.mem_of_getElem? hx.out)).2
                  exact this (List.eq_nil_of_length_eq_zero (by omega)))
                go_wp2_with (first | (go_at_call 51; rw [← h4]; refine HV.out.mono ?_; rintro e w5 ⟨rfl, hb5⟩; have q0 := (HX4.out.after hb5).cell 0; have q1 := (HX4.out.after hb5).lt; have HB5 := Lib.hid (HB4.out.trans (hb5.mono HB4.out.size)); simp at q0; clear h4 hb5))
                go_ret
                exact ⟨by rw [HF.out]; rfl, HB3.out.trans (HB5.out.mono HB3.out.size)⟩
              · have HK' : Hid (∀ s ∈ sets.take (k + 1), okS s) := by
                  intro t ht
                  obtain ⟨hk', e⟩ := List.getElem?_eq_some_iff.1 hx.out
                  rw [List.take_succ_eq_append_getElem hk', e] at ht
                  rcases List.mem_append.1 ht with ht | ht
                  · exact HK.out t ht
                  · rw [List.mem_singleton.1 ht]
                    exact ⟨hc, fun h => hl (by rw [← hns, h]; rfl)⟩
                go_wp2_with (first | (go_at_call 51; rw [← h4]; refine HV.out.mono ?_; rintro e w5 ⟨rfl, hb5⟩; have q0 := (HX4.out.after hb5).cell 0; have q1 := (HX4.out.after hb5).lt; have HB5 := Lib.hid (HB4.out.trans (hb5.mono HB4.out.size)); simp at q0; clear h4 hb5))
                go_roundw
                case rel => exact ⟨k + 1, by omega, by go_num, HK', HB5⟩
                case measure => simp [intOf]; omega
            · have HV := Lib.hid (validS_any A' ns c' s hns.symm w4 HR4.out (by omega) false ⟨fun h => (by cases h), fun h => absurd h hc⟩)
              have HF : Hid (chk1 r = 11) := chk1_sets hsz0.out (fun h => by
                rw [setsOk_iff, ← hsets.out] at h
                exact hc (h s (List.mem_of_getElem? hx.out)).1)
              go_wp2_with (first | (go_at_call 51; rw [← h4]; refine HV.out.mono ?_; rintro e w5 ⟨rfl, hb5⟩; have q0 := (HX4.out.after hb5).cell 0; have q1 := (HX4.out.after hb5).lt; have HB5 := Lib.hid (HB4.out.trans (hb5.mono HB4.out.size)); simp at q0; clear h4 hb5))
              go_ret
              exact ⟨by rw [HF.out]; rfl, HB3.out.trans (HB5.out.mono HB3.out.size)⟩
          · obtain rfl : k = nn := by omega
            obtain ⟨w6, rfl⟩ : ∃ x, x = wr := ⟨_, rfl⟩
            rw [List.take_of_length_le (by omega)] at HK
            have hset : Hid (setsOk r) := by
              show setsOk r
              rw [setsOk_iff, ← hsets.out]
              exact HK.out
            have f0' := (HX3.out.after HB.out).cell 3
            have f1' := (HX3.out.after HB.out).cell 1
            have f2' := (HX3.out.after HB.out).lt
            simp at f0' f1'
            have HX6 := Lib.hid (HX3.out.after HB.out)
            have RR6 := Lib.hid ((RR3.out.below HB.out).lt)
            have HB6 := Lib.hid (HB3.out.trans (HB.out.mono HB3.out.size))
            go_wp2_with fail
            go_loopw [56] (fun i wr => ∃ k : Nat, k ≤ nr ∧ i = .int .i64 (k : Int) ∧ Hid (∀ p ∈ r.res.take k, pieceOk r.mat.length p) ∧ Hid (Below w6.heap.size w6 wr)) (fun i _ => nr - (intOf i).toNat)
            case atStart => exact ⟨0, by omega, rfl, fun s hs => by simp at hs, Below.refl _ _⟩
            case round =>
              obtain ⟨j, hj, rfl, HJ, HB7⟩ := hrel
              have hb7 := HB7.out.size
              have HB8 := Lib.hid (HB6.out.trans (HB7.out.mono HB6.out.size))
              by_cases h2 : j < nr
              · obtain ⟨b, o, x, y, rfl, hb, hx, c1, c2⟩ := at_pr (RR6.out.below HB7.out) (k := j) (by omega)
                have hmem := List.mem_of_getElem? hx.out
                have t1 := (HX6.out.after HB7.out).cell 1
                have t2 := (HX6.out.after HB7.out).lt
                simp at t1
                have t3 : Hid (Below w.heap.size w (wr.alloc (Obj.cells #[.int .i64 x, .int .i64 y] 59))) := HB8.out.alloc HB8.out.size _
                have t4 : Hid (Below w6.heap.size w6 (wr.alloc (Obj.cells #[.int .i64 x, .int .i64 y] 59))) := HB7.out.alloc HB7.out.size _
                have NEXT : Hid (pieceOk r.mat.length (x, y) → ∀ p ∈ r.res.take (j + 1), pieceOk r.mat.length p) := by
                  intro hp t ht
                  obtain ⟨hk', e⟩ := List.getElem?_eq_some_iff.1 hx.out
                  rw [List.take_succ_eq_append_getElem hk', e] at ht
                  rcases List.mem_append.1 ht with ht | ht
                  · exact HJ.out t ht
                  · rw [List.mem_singleton.1 ht]
                    exact hp
                have BAD : Hid (¬ pieceOk r.mat.length (x, y) → chk1 r = 1) := fun hp => chk1_res hsz0.out hset.out (fun h => hp (h _ hmem))
                have HNM := Lib.hid hnm
                by_cases hy : y = 0
                · subst hy
                  cases hv : vldB x with
                  | true =>
                    have HV := Lib.hid hv
                    have HN : Hid (∀ p ∈ r.res.take (j + 1), pieceOk r.mat.length p) := NEXT.out (.inl ⟨rfl, vld_of hv⟩)
                    clear hv
                    go_wp2_with (first | (go_at_call 52; refine (valid_any _ _ _ HV.out).mono ?_; rintro e w' ⟨rfl, rfl⟩))
                    go_roundw
                    case rel => exact ⟨j + 1, by omega, by go_num, HN, t4⟩
                    case measure => simp [intOf]; omega
                  | false =>
                    have HV := Lib.hid hv
                    have HF : Hid (chk1 r = 1) := BAD.out (fun h => by
                      rcases h with h | h
                      · exact vld_off hv h.2
                      · have := h.2.1
                        simp at this)
                    clear hv
                    go_wp2_with (first | (go_at_call 52; refine (valid_any _ _ _ HV.out).mono ?_; rintro e w' ⟨rfl, rfl⟩))
                    go_ret
                    exact ⟨by rw [HF.out]; rfl, t3.out⟩
                · by_cases hok : x = 0 ∧ 1 ≤ y ∧ y ≤ (nm : Int)
                  · obtain ⟨rfl, h3, h4⟩ := hok
                    have HN : Hid (∀ p ∈ r.res.take (j + 1), pieceOk r.mat.length p) := NEXT.out (.inr ⟨rfl, h3, by rw [HNM.out]; exact h4⟩)
                    go_wp2
                    go_roundw
                    case rel => exact ⟨j + 1, by omega, by go_num, HN, t4⟩
                    case measure => simp [intOf]; omega
                  · have HF : Hid (chk1 r = 1) := BAD.out (fun h => by
                      rcases h with h | h
                      · exact hy h.1
                      · exact hok ⟨h.1, h.2.1, by have := h.2.2; rw [HNM.out] at this; exact this⟩)
                    by_cases hx0 : x = 0
                    · subst hx0
                      by_cases hy1 : y < 1
                      · go_wp2
                        go_ret
                        exact ⟨by rw [HF.out]; rfl, t3.out⟩
                      · have hy2 : ¬ y ≤ (nm : Int) := fun h => hok ⟨rfl, by omega, h⟩
                        clear hok
                        go_wp2
                        go_ret
                        exact ⟨by rw [HF.out]; rfl, t3.out⟩
                        case roundEnd => exact absurd (by assumption : (y != 0) = false ∨ y ≤ (nm : Int)) (by simp only [bne_eq_false_iff_eq]; omega)
                    · clear hok
                      go_wp2
                      go_ret
                      exact ⟨by rw [HF.out]; rfl, t3.out⟩
              · obtain rfl : j = nr := by omega
                have HF : Hid (chk1 r = 0) := chk1_zero hsz0.out hset.out (fun p hp => HJ.out p (by rw [List.take_of_length_le (by omega)]; exact hp))
                go_wp2
                go_ret
                exact ⟨by rw [HF.out]; rfl, HB8.out⟩
      · have HF : Hid (chk1 r = 2) := chk1_size (fun h => by have := h.2.2.2.2; omega)
        go_enter Try.func42, Try.ntmps42
        go_wp2
        go_ret
        exact ⟨by rw [HF.out]; rfl, by rw [← h1]; exact HB1.out⟩
    · have HF : Hid (chk1 r = 2) := chk1_size (fun h => by have := h.2.1; have := h.2.2.1; have := h.2.2.2.1; omega)
      go_enter Try.func42, Try.ntmps42
      go_wp2
      go_ret
      exact ⟨by rw [HF.out]; rfl, by rw [← h1]; exact HB1.out⟩
end Go.Proofs.Ytjohoohdjlajcaa
