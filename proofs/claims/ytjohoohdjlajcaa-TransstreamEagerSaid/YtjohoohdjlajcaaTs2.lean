/-
  transrule.Check: the first error of rules.
  ref50.sets, ref50.right: lists of sets.
  ref50.one, ref50.Check: the first error of rules, of the specification.
  ref50.Check, ref50.Small.
  ref50.Small (printed by ts6.py).
-/
import Derived.Test.YtjohoohdjlajcaaTs1
import Derived.Test.YtjohoohdjlajcaaCs2
namespace Go.UtYtjohoohdjlajcaa
open Go.RowKit
def smR (rules : List TR) : Prop := ∀ r ∈ rules, smS r.bef ∧ smS r.mat ∧ smS r.aft
theorem chkF_snoc {l : List TR} {k : Nat} {r : TR} (h : ∀ s ∈ l.take k, chk1 s = 0) (hk : l[k]? = some r) (hr : chk1 r = 0) : ∀ s ∈ l.take (k + 1), chk1 s = 0 := by
  intro s hs
  obtain ⟨hk', e⟩ := List.getElem?_eq_some_iff.1 hk
  rw [List.take_succ_eq_append_getElem hk', e] at hs
  rcases List.mem_append.1 hs with hs | hs
  · exact h s hs
  · rw [List.mem_singleton.1 hs]
    exact hr
theorem chkF_bad {l : List TR} {k : Nat} {r : TR} (h : ∀ s ∈ l.take k, chk1 s = 0) (hk : l[k]? = some r) (hr : chk1 r ≠ 0) : chkF l = chk1 r := by
  obtain ⟨hk', e⟩ := List.getElem?_eq_some_iff.1 hk
  have : l = l.take k ++ r :: l.drop (k + 1) := by
    rw [← e, List.getElem_cons_drop]
    exact (List.take_append_drop k l).symm
  rw [this]
  exact chkF_at h hr
end Go.UtYtjohoohdjlajcaa
namespace Go.Proofs.Ytjohoohdjlajcaa
open Go.RowKit Go.UtYtjohoohdjlajcaa
set_option maxRecDepth 100000 in
set_option maxHeartbeats 1000000 in
theorem tcheck_any (A : Option Addr) (c : Nat) (rules : List TR) (w : World) (hR : RulesAt w w.heap.size A rules) (hs : smR rules) (hl : rules.length ≤ c) (_hc : c ≤ maxLen) :
    Calls Try.prog 26 #[.slice A rules.length c] w fun e w' => e = .returned (.int .i64 (chkL rules)) ∧ Below w.heap.size w w' := by
  have HR := Lib.hid hR
  have HS := Lib.hid hs
  unfold maxLen at _hc
  obtain ⟨n, hn⟩ : ∃ n, rules.length = n := ⟨_, rfl⟩
  rw [hn] at hl ⊢
  clear hR hs
  by_cases h2 : (n : Int) ≤ 200
  · have HC : Hid (chkL rules = chkF rules) := chkL_small (by omega)
    go_enter Try.func26, Try.ntmps26
    go_wp2
    go_loopw [11] (fun i wr => ∃ k : Nat, k ≤ n ∧ i = .int .i64 (k : Int) ∧ Hid (∀ s ∈ rules.take k, chk1 s = 0) ∧ Hid (Below w.heap.size w wr)) (fun i _ => n - (intOf i).toNat)
    case atStart => exact ⟨0, by omega, rfl, fun s hs => by simp at hs, Below.refl _ _⟩
    case round =>
      obtain ⟨k, hk, rfl, HK, HB⟩ := hrel
      have hbs := HB.out.size
      by_cases h1 : k < n
      · obtain ⟨b, o, v0, v1, v2, v3, r, rfl, hb, hx, HRA, c0, c1, c2, c3⟩ := (HR.out.below HB.out).at_ (k := k) (by omega)
        obtain ⟨Ab, cb, Am, cm, Aa, ca, Ar, cr, hvs, hmore⟩ := HRA.out
        have hvs' := hvs
        simp only [List.cons.injEq, and_true] at hvs
        obtain ⟨rfl, rfl, rfl, rfl⟩ := hvs
        obtain ⟨s1, s2, s3⟩ := HS.out r (List.mem_of_getElem? hx.out)
        obtain ⟨w1, hw1, HB1, HA1⟩ : ∃ w1, w1 = wr.alloc (.cells #[.slice Ab r.bef.length cb, .slice Am r.mat.length cm, .slice Aa r.aft.length ca, .slice Ar r.res.length cr] 41) ∧ Hid (Below w.heap.size w w1) ∧ Hid (RuleAt w1 w1.heap.size [.slice Ab r.bef.length cb, .slice Am r.mat.length cm, .slice Aa r.aft.length ca, .slice Ar r.res.length cr] r) := by
          have q : Below wr.heap.size wr (wr.alloc (.cells #[.slice Ab r.bef.length cb, .slice Am r.mat.length cm, .slice Aa r.aft.length ca, .slice Ar r.res.length cr] 41)) := (Below.refl _ _).alloc (Nat.le_refl _) _
          exact ⟨_, rfl, HB.out.alloc hbs _, ((HRA.out.more hbs).below q).lt⟩
        have HCK := Lib.hid (checked_any r _ w1 HA1.out s1 s2 s3)
        have HHX := Lib.hid hmore
        clear hmore hvs'
        by_cases h0 : chk1 r = 0
        · rw [h0] at HCK
          have HK' := Lib.hid (chkF_snoc HK.out hx.out h0)
          go_wp2_with (first | (go_at_call 42; rw [← hw1]; refine HCK.out.mono ?_; rintro e w2 ⟨rfl, hb2⟩; have HB2 := Lib.hid (HB1.out.trans (hb2.mono HB1.out.size))))
          go_roundw
          case rel => exact ⟨k + 1, by omega, by go_num, HK', HB2⟩
          case measure => simp [intOf]; omega
        · have HF : Hid (chkL rules = chk1 r) := HC.out.trans (chkF_bad HK.out hx.out h0)
          go_wp2_with (first | (go_at_call 42; rw [← hw1]; refine HCK.out.mono ?_; rintro e w2 ⟨rfl, hb2⟩; have HB2 := Lib.hid (HB1.out.trans (hb2.mono HB1.out.size))))
          go_ret
          exact ⟨by rw [HF.out]; rfl, HB2.out⟩
      · obtain rfl : k = n := by omega
        have HF : Hid (chkL rules = 0) := HC.out.trans (chkF_zero (fun s hs => HK.out s (by rw [List.take_of_length_le (by omega)]; exact hs)))
        go_wp2
        go_ret
        exact ⟨by rw [HF.out]; rfl, HB.out⟩
  · have HF : Hid (chkL rules = 2) := by
      show _ = _
      unfold chkL
      rw [if_pos (by omega)]
    go_enter Try.func26, Try.ntmps26
    go_wp2
    go_ret
    exact ⟨by rw [HF.out]; rfl, Below.refl _ _⟩
end Go.Proofs.Ytjohoohdjlajcaa
namespace Go.UtYtjohoohdjlajcaa
open Go.RowKit
theorem sm_snoc {l : List (List Rg)} {P : List Rg → Prop} {k : Nat} {s : List Rg} (h : ∀ s ∈ l.take k, P s) (hk : l[k]? = some s) (hp : P s) : ∀ s ∈ l.take (k + 1), P s := by
  intro t ht
  obtain ⟨hk', e⟩ := List.getElem?_eq_some_iff.1 hk
  rw [List.take_succ_eq_append_getElem hk', e] at ht
  rcases List.mem_append.1 ht with ht | ht
  · exact h t ht
  · rw [List.mem_singleton.1 ht]
    exact hp
end Go.UtYtjohoohdjlajcaa
namespace Go.Proofs.Ytjohoohdjlajcaa
open Go.RowKit Go.UtYtjohoohdjlajcaa
set_option maxRecDepth 100000 in
set_option maxHeartbeats 1000000 in
theorem right_any (A : Option Addr) (c : Nat) (l : List (List Rg)) (w : World) (hR : SetsAt w w.heap.size A l) (hl : l.length ≤ c) (hc : c ≤ maxLen) (hs : smS l) (v : Bool) (hv : v = true ↔ ∀ s ∈ l, okS s) :
    Calls Try.prog 55 #[.slice A l.length c] w fun e w' => e = .returned (.bool v) ∧ Below w.heap.size w w' := by
  have HR := Lib.hid hR
  have HV := Lib.hid hv
  have HSM := Lib.hid hs
  unfold maxLen at hc
  obtain ⟨n, hn⟩ : ∃ n, l.length = n := ⟨_, rfl⟩
  rw [hn] at hl ⊢
  clear hR hv hs
  go_enter Try.func55, Try.ntmps55
  go_wp2
  go_loopw [3] (fun i wr => ∃ k : Nat, k ≤ n ∧ i = .int .i64 (k : Int) ∧ Hid (∀ s ∈ l.take k, okS s) ∧ Hid (Below w.heap.size w wr)) (fun i _ => n - (intOf i).toNat)
  case atStart => exact ⟨0, by omega, rfl, fun s hs => by simp at hs, Below.refl _ _⟩
  case round =>
    obtain ⟨k, hk, rfl, HK, HB⟩ := hrel
    have hbs := HB.out.size
    by_cases h1 : k < n
    · obtain ⟨b, o, A', c', s, rfl, hb, hx, cc, l1, l2, HS⟩ := (HR.out.below HB.out).at_ (k := k) (by omega)
      have hs12 := HSM.out s (List.mem_of_getElem? hx.out)
      have BAD : Hid (¬ okS s → v = false) := fun h => by
        cases v with
        | false => rfl
        | true => exact absurd (HV.out.1 rfl s (List.mem_of_getElem? hx.out)) h
      have HRS := Lib.hid ((HS.out.more hbs))
      by_cases hcn : Cnn s
      · have HCV := rValid_any A' c' s wr HRS.out (by omega) true ⟨fun _ => hcn, fun _ => rfl⟩
        obtain ⟨ns, hns⟩ : ∃ ns, s.length = ns := ⟨_, rfl⟩
        rw [hns] at cc l1 hs12 HCV
        have HCV := Lib.hid HCV
        unfold maxLen at l2
        by_cases h0 : ns = 0
        · subst h0
          have HF : Hid (v = false) := BAD.out (fun h => h.2 (List.eq_nil_of_length_eq_zero hns))
          go_wp2_with (first | (go_at_call 61; refine HCV.out.mono ?_; rintro e w2 ⟨rfl, hb2⟩; have HB2 := Lib.hid (HB.out.trans (hb2.mono hbs)); have cc2 := ((hb2.mono hbs).cell (p := ⟨b, o + k, none⟩) hb).trans cc; clear hb2))
          go_ret
          exact ⟨ret_bool HF.out.symm, HB2.out⟩
        · have HK' := Lib.hid (sm_snoc (P := okS) HK.out hx.out ⟨hcn, fun h => h0 (by rw [← hns, h]; rfl)⟩)
          go_wp2_with (first | (go_at_call 61; refine HCV.out.mono ?_; rintro e w2 ⟨rfl, hb2⟩; have HB2 := Lib.hid (HB.out.trans (hb2.mono hbs)); have cc2 := ((hb2.mono hbs).cell (p := ⟨b, o + k, none⟩) hb).trans cc; clear hb2))
          go_roundw
          case rel => exact ⟨k + 1, by omega, by go_num, HK', HB2⟩
          case measure => simp [intOf]; omega
      · have HCV := Lib.hid (rValid_any A' c' s wr HRS.out (by omega) false ⟨fun h => (by cases h), fun h => absurd h hcn⟩)
        have HF : Hid (v = false) := BAD.out (fun h => hcn h.1)
        go_wp2_with (first | (go_at_call 61; refine HCV.out.mono ?_; rintro e w2 ⟨rfl, hb2⟩; have HB2 := Lib.hid (HB.out.trans (hb2.mono hbs)); clear hb2))
        go_ret
        exact ⟨ret_bool HF.out.symm, HB2.out⟩
    · obtain rfl : k = n := by omega
      have HF : Hid (v = true) := HV.out.2 (fun s hs => HK.out s (by rw [List.take_of_length_le (by omega)]; exact hs))
      go_wp2
      go_ret
      exact ⟨ret_bool HF.out.symm, HB.out⟩
end Go.Proofs.Ytjohoohdjlajcaa
namespace Go.Proofs.Ytjohoohdjlajcaa
open Go.RowKit Go.UtYtjohoohdjlajcaa
set_option maxRecDepth 100000 in
set_option maxHeartbeats 6000000 in
theorem one_any (r : TR) (vs : List Value) (w : World) (hR : RuleAt w w.heap.size vs r) (hb : smS r.bef) (hm : smS r.mat) (ha : smS r.aft) :
    Calls Try.prog 48 #[.agg vs.toArray] w fun e w' => e = .returned (.int .i64 (chk1 r)) ∧ Below w.heap.size w w' := by
  obtain ⟨Ab, cb, Am, cm, Aa, ca, Ar, cr, rfl, ⟨rb, rm, ra, rr⟩, ⟨b1, b2⟩, ⟨m1, m2⟩, ⟨a1, a2⟩, ⟨r1, r2⟩⟩ := hR
  have RB := Lib.hid rb
  have RM := Lib.hid rm
  have RA := Lib.hid ra
  have RR := Lib.hid rr
  have SB := Lib.hid hb
  have SM := Lib.hid hm
  have SA := Lib.hid ha
  clear rb rm ra rr hb hm ha
  obtain ⟨w1, h1, HB1, HX1⟩ : ∃ w1, w1 = w.alloc (.cells #[.slice Ab r.bef.length cb, .slice Am r.mat.length cm, .slice Aa r.aft.length ca, .slice Ar r.res.length cr] 41) ∧ Hid (Below w.heap.size w w1) ∧ Hid (Blk w1 w.heap.size 41 #[.slice Ab r.bef.length cb, .slice Am r.mat.length cm, .slice Aa r.aft.length ca, .slice Ar r.res.length cr]) := ⟨_, rfl, (Below.refl _ _).alloc (Nat.le_refl _) _, Blk.new _ _ _⟩
  have CB := fun (w' : World) (hb : Below w.heap.size w w') (v : Bool) (hv : v = true ↔ ∀ s ∈ r.bef, okS s) => right_any Ab cb r.bef w' ((RB.out.below hb).more hb.size) b1 b2 SB.out v hv
  have CM := fun (w' : World) (hb : Below w.heap.size w w') (v : Bool) (hv : v = true ↔ ∀ s ∈ r.mat, okS s) => right_any Am cm r.mat w' ((RM.out.below hb).more hb.size) m1 m2 SM.out v hv
  have CA := fun (w' : World) (hb : Below w.heap.size w w') (v : Bool) (hv : v = true ↔ ∀ s ∈ r.aft, okS s) => right_any Aa ca r.aft w' ((RA.out.below hb).more hb.size) a1 a2 SA.out v hv
  unfold maxLen at b2 m2 a2 r2
  obtain ⟨nb, hnb⟩ : ∃ n, r.bef.length = n := ⟨_, rfl⟩
  obtain ⟨nm, hnm⟩ : ∃ n, r.mat.length = n := ⟨_, rfl⟩
  obtain ⟨na, hna⟩ : ∃ n, r.aft.length = n := ⟨_, rfl⟩
  obtain ⟨nr, hnr⟩ : ∃ n, r.res.length = n := ⟨_, rfl⟩
  rw [hnb] at b1
  rw [hnm] at m1
  rw [hna] at a1
  rw [hnr] at r1
  rw [hnb] at CB
  rw [hnm] at CM
  rw [hna] at CA
  have CB := Lib.hid CB
  have CM := Lib.hid CM
  have CA := Lib.hid CA
  rw [hnb, hnm, hna, hnr] at h1 HX1 ⊢
  by_cases hsz : sizeOk r
  case neg =>
    have HF : Hid (chk1 r = 2) := chk1_size hsz
    have hsz' : ¬ (1 ≤ nm ∧ nm ≤ 8 ∧ nb ≤ 8 ∧ na ≤ 8 ∧ nr ≤ 16) := fun h => hsz ⟨by omega, by omega, by omega, by omega, by omega⟩
    by_cases t1 : nm < 1
    · go_enter Try.func48, Try.ntmps48
      go_wp2
      go_ret
      exact ⟨by rw [HF.out]; rfl, by rw [← h1]; exact HB1.out⟩
    by_cases t2 : 8 < nm
    · go_enter Try.func48, Try.ntmps48
      go_wp2
      go_ret
      exact ⟨by rw [HF.out]; rfl, by rw [← h1]; exact HB1.out⟩
    by_cases t3 : 8 < nb
    · go_enter Try.func48, Try.ntmps48
      go_wp2
      go_ret
      exact ⟨by rw [HF.out]; rfl, by rw [← h1]; exact HB1.out⟩
    by_cases t4 : 8 < na
    · go_enter Try.func48, Try.ntmps48
      go_wp2
      go_ret
      exact ⟨by rw [HF.out]; rfl, by rw [← h1]; exact HB1.out⟩
    have t5 : 16 < nr := by omega
    go_enter Try.func48, Try.ntmps48
    go_wp2
    go_ret
    exact ⟨by rw [HF.out]; rfl, by rw [← h1]; exact HB1.out⟩
  case pos =>
    have hsz0 := Lib.hid hsz
    obtain ⟨t1, t2, t3, t4, t5⟩ : 1 ≤ nm ∧ nm ≤ 8 ∧ nb ≤ 8 ∧ na ≤ 8 ∧ nr ≤ 16 := by
      obtain ⟨q1, q2, q3, q4, q5⟩ := hsz
      exact ⟨by omega, by omega, by omega, by omega, by omega⟩
    clear hsz
    have NOT : Hid (¬ setsOk r → chk1 r = 11) := chk1_sets hsz0.out
    have e0 := HX1.out.cell 0
    simp at e0
    by_cases ob : ∀ s ∈ r.bef, okS s
    case neg =>
      have HF : Hid (chk1 r = 11) := NOT.out (fun h => ob h.1)
      have C1 := Lib.hid (CB.out w1 HB1.out false ⟨fun h => (by cases h), fun h => absurd h ob⟩)
      go_enter Try.func48, Try.ntmps48
      go_wp2_with (first | (go_at_call 55; rw [← h1]; refine C1.out.mono ?_; rintro e w2 ⟨rfl, hb2⟩; have HB2 := Lib.hid (HB1.out.trans (hb2.mono HB1.out.size))))
      go_ret
      exact ⟨by rw [HF.out]; rfl, HB2.out⟩
    case pos =>
      have C1 := Lib.hid (CB.out w1 HB1.out true ⟨fun _ => ob, fun _ => rfl⟩)
      have OB := Lib.hid ob
      clear ob
      by_cases om : ∀ s ∈ r.mat, okS s
      case neg =>
        have HF : Hid (chk1 r = 11) := NOT.out (fun h => om h.2.1)
        go_enter Try.func48, Try.ntmps48
        go_wp2_with (first | (go_at_call 55; rw [← h1]; refine C1.out.mono ?_; rintro e w2 ⟨rfl, hb2⟩; have HB2 := Lib.hid (HB1.out.trans (hb2.mono HB1.out.size)); have HX2 := Lib.hid (HX1.out.after hb2); have p1 := HX2.out.cell 1; have p2 := HX2.out.lt; simp at p1; clear hb2 h1) | (go_at_call 55; refine (CM.out w2 HB2.out false ⟨fun h => (by cases h), fun h => absurd h om⟩).mono ?_; rintro e w3 ⟨rfl, hb3⟩; have HB3 := Lib.hid (HB2.out.trans (hb3.mono HB2.out.size)); have HX3 := Lib.hid (HX2.out.after hb3); have p3 := HX3.out.cell 2; have p4 := HX3.out.lt; simp at p3; clear hb3))
        go_ret
        exact ⟨by rw [HF.out]; rfl, HB3.out⟩
      case pos =>
        have OM := Lib.hid om
        clear om
        by_cases oa : ∀ s ∈ r.aft, okS s
        case neg =>
          have HF : Hid (chk1 r = 11) := NOT.out (fun h => oa h.2.2)
          go_enter Try.func48, Try.ntmps48
          go_wp2_with (first | (go_at_call 55; rw [← h1]; refine C1.out.mono ?_; rintro e w2 ⟨rfl, hb2⟩; have HB2 := Lib.hid (HB1.out.trans (hb2.mono HB1.out.size)); have HX2 := Lib.hid (HX1.out.after hb2); have p1 := HX2.out.cell 1; have p2 := HX2.out.lt; simp at p1; clear hb2 h1) | (go_at_call 55; refine (CA.out w3 HB3.out false ⟨fun h => (by cases h), fun h => absurd h oa⟩).mono ?_; rintro e w4 ⟨rfl, hb4⟩; have HB4 := Lib.hid (HB3.out.trans (hb4.mono HB3.out.size)); have HX4 := Lib.hid (HX3.out.after hb4); have p5 := HX4.out.cell 3; have p6 := HX4.out.lt; have p7 := HX4.out.cell 1; simp at p5 p7; clear hb4) | (go_at_call 55; refine (CM.out w2 HB2.out true ⟨fun _ => OM.out, fun _ => rfl⟩).mono ?_; rintro e w3 ⟨rfl, hb3⟩; have HB3 := Lib.hid (HB2.out.trans (hb3.mono HB2.out.size)); have HX3 := Lib.hid (HX2.out.after hb3); have p3 := HX3.out.cell 2; have p4 := HX3.out.lt; simp at p3; clear hb3))
          go_ret
          exact ⟨by rw [HF.out]; rfl, HB4.out⟩
        case pos =>
          have hset : Hid (setsOk r) := ⟨OB.out, OM.out, oa⟩
          have OA := Lib.hid oa
          clear oa
          go_enter Try.func48, Try.ntmps48
          go_wp2_with (first | (go_at_call 55; rw [← h1]; refine C1.out.mono ?_; rintro e w2 ⟨rfl, hb2⟩; have HB2 := Lib.hid (HB1.out.trans (hb2.mono HB1.out.size)); have HX2 := Lib.hid (HX1.out.after hb2); have p1 := HX2.out.cell 1; have p2 := HX2.out.lt; simp at p1; clear hb2 h1) | (go_at_call 55; refine (CA.out w3 HB3.out true ⟨fun _ => OA.out, fun _ => rfl⟩).mono ?_; rintro e w4 ⟨rfl, hb4⟩; have HB4 := Lib.hid (HB3.out.trans (hb4.mono HB3.out.size)); have HX4 := Lib.hid (HX3.out.after hb4); have p5 := HX4.out.cell 3; have p6 := HX4.out.lt; have p7 := HX4.out.cell 1; simp at p5 p7; clear hb4) | (go_at_call 55; refine (CM.out w2 HB2.out true ⟨fun _ => OM.out, fun _ => rfl⟩).mono ?_; rintro e w3 ⟨rfl, hb3⟩; have HB3 := Lib.hid (HB2.out.trans (hb3.mono HB2.out.size)); have HX3 := Lib.hid (HX2.out.after hb3); have p3 := HX3.out.cell 2; have p4 := HX3.out.lt; simp at p3; clear hb3))
          have RR6 := Lib.hid ((RR.out.below HB4.out).more HB4.out.size)
          go_loopw [3] (fun i wr => ∃ k : Nat, k ≤ nr ∧ i = .int .i64 (k : Int) ∧ Hid (∀ p ∈ r.res.take k, pieceOk r.mat.length p) ∧ Hid (Below w4.heap.size w4 wr)) (fun i _ => nr - (intOf i).toNat)
          case atStart => exact ⟨0, by omega, rfl, fun s hs => by simp at hs, Below.refl _ _⟩
          case round =>
            obtain ⟨j, hj, rfl, HJ, HB7⟩ := hrel
            have hb7 := HB7.out.size
            have HB8 := Lib.hid (HB4.out.trans (HB7.out.mono HB4.out.size))
            have t1' := (HX4.out.after HB7.out).cell 1
            have t2' := (HX4.out.after HB7.out).lt
            have t3' := (HX4.out.after HB7.out).cell 3
            simp at t1' t3'
            by_cases h2 : j < nr
            · obtain ⟨b, o, x, y, rfl, hb, hx, c1, c2⟩ := at_pr (RR6.out.below HB7.out) (k := j) (by omega)
              have hmem := List.mem_of_getElem? hx.out
              have q3 : Hid (Below w.heap.size w (wr.alloc (Obj.cells #[.int .i64 x, .int .i64 y] 59))) := HB8.out.alloc HB8.out.size _
              have q4 : Hid (Below w4.heap.size w4 (wr.alloc (Obj.cells #[.int .i64 x, .int .i64 y] 59))) := HB7.out.alloc HB7.out.size _
              have NEXT : Hid (pieceOk r.mat.length (x, y) → ∀ p ∈ r.res.take (j + 1), pieceOk r.mat.length p) := by
                intro hp t ht
                obtain ⟨hk', e⟩ := List.getElem?_eq_some_iff.1 hx.out
                rw [List.take_succ_eq_append_getElem hk', e] at ht
                rcases List.mem_append.1 ht with ht | ht
                · exact HJ.out t ht
                · rw [List.mem_singleton.1 ht]
                  exact hp
              have BAD : Hid (¬ pieceOk r.mat.length (x, y) → chk1 r = 1) := fun hp => chk1_res hsz0.out hset.out (fun h => hp (h _ hmem))
              have HNM := Lib.hid hnm
              by_cases hy : y = 0
              · subst hy
                cases hv : vldB x with
                | true =>
                  have HV := Lib.hid hv
                  have HN : Hid (∀ p ∈ r.res.take (j + 1), pieceOk r.mat.length p) := NEXT.out (.inl ⟨rfl, vld_of hv⟩)
                  clear hv
                  by_cases hx0 : x = 0
                  · subst hx0
                    go_wp2_with (first | (go_at_call 37; refine (valid2_any _ _ _ HV.out).mono ?_; rintro e w' ⟨rfl, rfl⟩))
                    go_roundw
                    case rel => exact ⟨j + 1, by omega, by go_num, HN, q4⟩
                    case measure => simp [intOf]; omega
                  · go_wp2_with (first | (go_at_call 37; refine (valid2_any _ _ _ HV.out).mono ?_; rintro e w' ⟨rfl, rfl⟩))
                    go_roundw
                    case rel => exact ⟨j + 1, by omega, by go_num, HN, q4⟩
                    case measure => simp [intOf]; omega
                | false =>
                  have HV := Lib.hid hv
                  have HF : Hid (chk1 r = 1) := BAD.out (fun h => by
                    rcases h with h | h
                    · exact vld_off hv h.2
                    · have := h.2.1
                      simp at this)
                  have hx0 : ¬ x = 0 := fun h => by subst h; exact vld_off hv ⟨by omega, by omega⟩
                  clear hv
                  go_wp2_with (first | (go_at_call 37; refine (valid2_any _ _ _ HV.out).mono ?_; rintro e w' ⟨rfl, rfl⟩))
                  go_ret
                  exact ⟨by rw [HF.out]; rfl, q3.out⟩
              · by_cases hok : x = 0 ∧ 1 ≤ y ∧ y ≤ (nm : Int)
                · obtain ⟨rfl, h3, h4⟩ := hok
                  have HN : Hid (∀ p ∈ r.res.take (j + 1), pieceOk r.mat.length p) := NEXT.out (.inr ⟨rfl, h3, by rw [HNM.out]; exact h4⟩)
                  go_wp2
                  go_roundw
                  case rel => exact ⟨j + 1, by omega, by go_num, HN, q4⟩
                  case measure => simp [intOf]; omega
                · have HF : Hid (chk1 r = 1) := BAD.out (fun h => by
                    rcases h with h | h
                    · exact hy h.1
                    · exact hok ⟨h.1, h.2.1, by have := h.2.2; rw [HNM.out] at this; exact this⟩)
                  by_cases hx0 : x = 0
                  · subst hx0
                    by_cases hy1 : y < 1
                    · clear hok
                      go_wp2
                      go_ret
                      exact ⟨by rw [HF.out]; rfl, q3.out⟩
                    · have hy2 : ¬ y ≤ (nm : Int) := fun h => hok ⟨rfl, by omega, h⟩
                      clear hok
                      go_wp2
                      go_ret
                      exact ⟨by rw [HF.out]; rfl, q3.out⟩
                  · clear hok
                    go_wp2
                    go_ret
                    exact ⟨by rw [HF.out]; rfl, q3.out⟩
            · obtain rfl : j = nr := by omega
              have HF : Hid (chk1 r = 0) := chk1_zero hsz0.out hset.out (fun p hp => HJ.out p (by rw [List.take_of_length_le (by omega)]; exact hp))
              go_wp2
              go_ret
              exact ⟨by rw [HF.out]; rfl, HB8.out⟩
end Go.Proofs.Ytjohoohdjlajcaa
namespace Go.Proofs.Ytjohoohdjlajcaa
open Go.RowKit Go.UtYtjohoohdjlajcaa
set_option maxRecDepth 100000 in
set_option maxHeartbeats 1000000 in
theorem rcheck_any (A : Option Addr) (c : Nat) (rules : List TR) (w : World) (hR : RulesAt w w.heap.size A rules) (hs : smR rules) (hl : rules.length ≤ c) (_hc : c ≤ maxLen) :
    Calls Try.prog 38 #[.slice A rules.length c] w fun e w' => e = .returned (.int .i64 (chkL rules)) ∧ Below w.heap.size w w' := by
  have HR := Lib.hid hR
  have HS := Lib.hid hs
  unfold maxLen at _hc
  obtain ⟨n, hn⟩ : ∃ n, rules.length = n := ⟨_, rfl⟩
  rw [hn] at hl ⊢
  clear hR hs
  by_cases h2 : (n : Int) ≤ 200
  · have HC : Hid (chkL rules = chkF rules) := chkL_small (by omega)
    go_enter Try.func38, Try.ntmps38
    go_wp2
    go_loopw [3] (fun i wr => ∃ k : Nat, k ≤ n ∧ i = .int .i64 (k : Int) ∧ Hid (∀ s ∈ rules.take k, chk1 s = 0) ∧ Hid (Below w.heap.size w wr)) (fun i _ => n - (intOf i).toNat)
    case atStart => exact ⟨0, by omega, rfl, fun s hs => by simp at hs, Below.refl _ _⟩
    case round =>
      obtain ⟨k, hk, rfl, HK, HB⟩ := hrel
      have hbs := HB.out.size
      by_cases h1 : k < n
      · obtain ⟨b, o, v0, v1, v2, v3, r, rfl, hb, hx, HRA, c0, c1, c2, c3⟩ := (HR.out.below HB.out).at_ (k := k) (by omega)
        obtain ⟨Ab, cb, Am, cm, Aa, ca, Ar, cr, hvs, hmore⟩ := HRA.out
        simp only [List.cons.injEq, and_true] at hvs
        obtain ⟨rfl, rfl, rfl, rfl⟩ := hvs
        obtain ⟨s1, s2, s3⟩ := HS.out r (List.mem_of_getElem? hx.out)
        have HCK := Lib.hid (one_any r _ wr (HRA.out.more hbs) s1 s2 s3)
        clear hmore
        by_cases h0 : chk1 r = 0
        · rw [h0] at HCK
          have HK' := Lib.hid (chkF_snoc HK.out hx.out h0)
          go_wp2_with (first | (go_at_call 48; refine HCK.out.mono ?_; rintro e w2 ⟨rfl, hb2⟩; have HB2 := Lib.hid (HB.out.trans (hb2.mono hbs))))
          go_roundw
          case rel => exact ⟨k + 1, by omega, by go_num, HK', HB2⟩
          case measure => simp [intOf]; omega
        · have HF : Hid (chkL rules = chk1 r) := HC.out.trans (chkF_bad HK.out hx.out h0)
          go_wp2_with (first | (go_at_call 48; refine HCK.out.mono ?_; rintro e w2 ⟨rfl, hb2⟩; have HB2 := Lib.hid (HB.out.trans (hb2.mono hbs))))
          go_ret
          exact ⟨by rw [HF.out]; rfl, HB2.out⟩
      · obtain rfl : k = n := by omega
        have HF : Hid (chkL rules = 0) := HC.out.trans (chkF_zero (fun s hs => HK.out s (by rw [List.take_of_length_le (by omega)]; exact hs)))
        go_wp2
        go_ret
        exact ⟨by rw [HF.out]; rfl, HB.out⟩
  · have HF : Hid (chkL rules = 2) := by
      show _ = _
      unfold chkL
      rw [if_pos (by omega)]
    go_enter Try.func38, Try.ntmps38
    go_wp2
    go_ret
    exact ⟨by rw [HF.out]; rfl, Below.refl _ _⟩
end Go.Proofs.Ytjohoohdjlajcaa
namespace Go.UtYtjohoohdjlajcaa
open Go.RowKit
def smT (l : List (List Rg)) : Prop := smS l ∧ l.length ≤ 10
def smOne (r : TR) : Prop := smT r.bef ∧ smT r.mat ∧ smT r.aft ∧ r.res.length ≤ 20
/-- rules that are few and small -/
def smL (rules : List TR) : Prop := rules.length ≤ 6 ∧ ∀ r ∈ rules, smOne r
theorem smL.smR {rules : List TR} (h : smL rules) : smR rules := fun r hr => ⟨(h.2 r hr).1.1, (h.2 r hr).2.1.1, (h.2 r hr).2.2.1.1⟩
theorem smo_snoc {l : List TR} {k : Nat} {s : TR} (h : ∀ s ∈ l.take k, smOne s) (hk : l[k]? = some s) (hp : smOne s) : ∀ s ∈ l.take (k + 1), smOne s := by
  intro t ht
  obtain ⟨hk', e⟩ := List.getElem?_eq_some_iff.1 hk
  rw [List.take_succ_eq_append_getElem hk', e] at ht
  rcases List.mem_append.1 ht with ht | ht
  · exact h t ht
  · rw [List.mem_singleton.1 ht]
    exact hp
end Go.UtYtjohoohdjlajcaa
namespace Go.Proofs.Ytjohoohdjlajcaa
open Go.RowKit Go.UtYtjohoohdjlajcaa
end Go.Proofs.Ytjohoohdjlajcaa
