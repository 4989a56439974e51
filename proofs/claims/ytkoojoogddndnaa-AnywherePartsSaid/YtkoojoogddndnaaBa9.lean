/-
  ref31.Sync, anywhere.Sync.
-/
import Derived.Test.YtkoojoogddndnaaBa5
import Derived.Test.YtkoojoogddndnaaBs0
namespace Go.Proofs.Ytkoojoogddndnaa
open Go.RowKit Go.UtYtkoojoogddndnaa
theorem tri_info : (Try.prog.info? 33).map (fun i => (i.zero, i.size, i.bytes)) = some (some (.agg #[.int .i64 0, .int .i64 0, .int .i64 0]), 3, 24) := by kernel_rfl
/-- The call returns a slice that reads as triples; nothing older has changed. -/
def RetT (w : World) (l : List (Int × Int × Int)) (e : Ending) (w' : World) : Prop :=
  ∃ A c, e = .returned (.slice A l.length c) ∧ l.length ≤ c ∧ c ≤ maxLen ∧ Row w' w'.heap.size A (spn l) ∧ Below w.heap.size w w'
theorem spn_snoc (l : List (Int × Int × Int)) (a b c : Int) : spn (l ++ [(a, b, c)]) = spn l ++ [.int .i64 a, .int .i64 b, .int .i64 c] := by simp [spn]
theorem tri_one (a b c : Int) : ∀ u ∈ [Value.int .i64 a, .int .i64 b, .int .i64 c], u.oneCell' = true := by
  intro u hu
  simp at hu
  rcases hu with rfl | rfl | rfl <;> rfl
theorem sync_no {nx : List (List Int)} {n j i no : Nat} (hn : n ≤ 60) (hj : j ≤ n) (hi : i ≤ n) (h : (spn (syncN nx n j ++ syncP nx j i)).length = no * 3) : no ≤ 4000 := by
  rw [spn_len, List.length_append] at h
  have h1 := syncN_len nx n j
  have h2 := syncP_len nx j i
  have h3 : j * n ≤ 60 * 60 := Nat.mul_le_mul (by omega) hn
  omega
set_option maxRecDepth 100000 in
set_option maxHeartbeats 4000000 in
theorem rsync_any (x : TA) (t : BT) (w : World) (h : TabAt w w.heap.size x t) (hsm : t.cls.length ≤ 1000 ∧ t.act.length ≤ 1000) :
    Calls Try.prog 13 #[x.val t] w (RetT w (syncL t)) := by
  have CV := Lib.hid (fun (u : World) (hu : Below w.heap.size w u) (v' : Bool) (hv' : v' = true ↔ validT t) => valid29_any x t u (h.below hu).lt hsm v' hv')
  have CS := Lib.hid (fun (u : World) (hu : Below w.heap.size w u) (hs : soundP t.ln t.lm t.cls.length t.act.length) (p q : Nat) (h2 : p < t.cls.length) (h3 : q < t.cls.length) => single_any x.ln x.lm x.cln x.clm t.lm.length t.cls.length t.act.length t.ln t.lm p q u ((h.below hu).lt).2.2.1.1.1 hs h2 h3)
  unfold TA.val at CV ⊢
  obtain ⟨i0, hi0, hz0, hz1, hz2⟩ := info_parts tri_info
  obtain ⟨w1, hw1, HB1, HK1⟩ := boxT w 28 x t
  obtain ⟨q0, q1, q2, q3, q4, q5, ql⟩ := tab6 HK1.out
  by_cases gv : validT t
  case neg =>
    rw [syncL_neg gv]
    clear h
    go_enter Try.func13, Try.ntmps13
    go_upto_region 1 with fail
    rw [← hw1]
    clear hw1
    go_wp2_with fail
    refine (CV.out w1 HB1.out false ⟨fun h => (by cases h), fun h => absurd h gv⟩).mono ?_
    rintro e w2 ⟨rfl, hb2⟩
    have HB2 := Lib.hid (HB1.out.trans (hb2.mono HB1.out.size))
    clear hb2
    go_wp2
    go_ret
    exact ⟨none, 0, rfl, by simp, by simp [maxLen], Row.nil, HB2.out⟩
  case pos =>
    rw [syncL_pos gv]
    have hso := gv.2.2.2.1
    have hn60 := gv.1.1.2
    have HG := Lib.hid gv
    have CS1 := Lib.hid (fun (u : World) (hu : Below w.heap.size w u) (p q : Nat) (h2 : p < t.cls.length) (h3 : q < t.cls.length) => CS.out u hu hso p q h2 h3)
    have HAF := Lib.hid (fun (p q : Nat) (h2 : p < t.cls.length) (h3 : q < t.cls.length) => (aft_fit hso (s := 0) (x := p) (y := q) (by have := hso.1.1; omega) h2 h3).choose_spec.2.2.1)
    obtain ⟨n, hn⟩ : ∃ n, t.cls.length = n := ⟨_, rfl⟩
    have HN := Lib.hid hn
    rw [hn] at q0 hw1 CV hn60 CS1 HAF
    rw [hn]
    clear h hn hso gv CS hsm
    go_enter Try.func13, Try.ntmps13
    go_upto_region 1 with fail
    rw [← hw1]
    clear hw1
    go_wp2_with fail
    refine (CV.out w1 HB1.out true ⟨fun _ => HG.out, fun _ => rfl⟩).mono ?_
    rintro e w2 ⟨rfl, hb2⟩
    have HB2 := Lib.hid (HB1.out.trans (hb2.mono HB1.out.size))
    have HK2 := Lib.hid (HK1.out.after hb2)
    have hbs2 := HB2.out.size
    clear hb2 q0 q1 q2 q3 q4 q5 ql
    obtain ⟨q0, q1, q2, q3, q4, q5, ql⟩ := tab6 HK2.out
    rw [HN.out] at q0
    go_wp2
    clear q0 q1 q2 q3 q4 q5 ql
    go_loopw [3, 4] (fun o i wr => ∃ (j no c : Nat) (A : Option Addr), j ≤ n ∧ i = .int .i64 (j : Int) ∧ o = .slice A no c ∧ Hid (wr.ownsRow w2.heap.size 33 3 (.slice A no c) no (spn (syncN t.ln n j))) ∧ Hid (Below w2.heap.size w2 wr)) (fun _ i _ => n - (intOf i).toNat)
    case atStart => exact ⟨0, 0, 0, none, Nat.zero_le _, rfl, rfl, own_nil _, Below.refl _ _⟩
    case round =>
      rename World => wo
      obtain ⟨j, no, c, A, hj, rfl, rfl, HO, HB⟩ := hrel
      have HBw := Lib.hid (HB2.out.trans (HB.out.mono hbs2))
      have HKr := Lib.hid (HK2.out.after HB.out)
      obtain ⟨p0, p1, p2, p3, p4, p5, pl⟩ := tab6 HKr.out
      rw [HN.out] at p0
      by_cases hjn : j < n
      · have HO0 : Hid (wo.ownsRow w2.heap.size 33 3 (.slice A no c) no (spn (syncN t.ln n j ++ syncP t.ln j 0))) := Lib.hid (by
          have := HO.out
          rwa [syncP_zero, List.append_nil])
        go_wp2
        clear p0 p1 p2 p3 p4 p5 pl HKr HBw HO
        go_loopw [3, 5] (fun o i wr => ∃ (k no c : Nat) (A : Option Addr), k ≤ n ∧ i = .int .i64 (k : Int) ∧ o = .slice A no c ∧ Hid (wr.ownsRow w2.heap.size 33 3 (.slice A no c) no (spn (syncN t.ln n j ++ syncP t.ln j k))) ∧ Hid (Below w2.heap.size w2 wr)) (fun _ i _ => n - (intOf i).toNat)
        case atStart => exact ⟨0, no, c, A, Nat.zero_le _, rfl, rfl, HO0, HB⟩
        case round =>
          clear HO0 HB
          obtain ⟨k, no, c, A, hk, rfl, rfl, HO, HB⟩ := hrel
          have HBw := Lib.hid (HB2.out.trans (HB.out.mono hbs2))
          have HKr := Lib.hid (HK2.out.after HB.out)
          obtain ⟨p0, p1, p2, p3, p4, p5, pl⟩ := tab6 HKr.out
          rw [HN.out] at p0
          by_cases hkn : k < n
          · have HST := Lib.hid (syncP_succ t.ln j k)
            have CJ := fun (u : World) (hu : Below w.heap.size w u) => CS1.out u hu j k hjn hkn
            have HA := HAF.out j k hjn hkn
            obtain ⟨sb, hsb⟩ : ∃ sb, sngB t.ln (j : Int) (k : Int) = sb := ⟨_, rfl⟩
            obtain ⟨f0, hf0⟩ : ∃ f0, aft t.ln 0 (j : Int) (k : Int) = f0 := ⟨_, rfl⟩
            obtain ⟨v, hv⟩ : ∃ v, (if sb then f0 else -1) = v := ⟨_, rfl⟩
            rw [hsb, hf0] at HST
            simp only [hsb, hf0, hv] at CJ
            replace CJ := Lib.hid CJ
            have HV2 := Lib.hid hv
            have HF0 : Hid (0 ≤ f0) := Lib.hid (by rw [← hf0]; simpa using HA)
            clear hv hsb hf0 HA
            go_wp2_with fail
            refine (CJ.out wr HBw.out).mono ?_
            rintro e w4 ⟨rfl, hb4⟩
            have HB4 : Hid (Below w2.heap.size w2 w4) := HB.out.trans (hb4.mono HB.out.size)
            have HO4 := Lib.hid (ow_below HO.out hb4)
            have hbs4 := HB4.out.size
            clear hb4 p0 p1 p2 p3 p4 p5 pl
            cases sb
            · obtain rfl : v = -1 := HV2.out.symm
              have HO5 : Hid (w4.ownsRow w2.heap.size 33 3 (.slice A no c) no (spn (syncN t.ln n j ++ syncP t.ln j (k + 1)))) := Lib.hid (by
                have h1 := HO4.out
                have h2 := HST.out
                simp only [Bool.false_eq_true, if_false, List.append_nil] at h2
                rwa [h2])
              go_wp2
              go_roundw
              case rel => exact ⟨k + 1, no, c, A, by omega, by go_num, rfl, HO5, HB4⟩
              case measure => simp [intOf] <;> omega
            · obtain rfl : v = f0 := HV2.out.symm
              have dv : 0 ≤ v := HF0.out
              have dv' : decide (0 ≤ v) = true := decide_eq_true dv
              have hno := sync_no hn60 hj hk HO4.out.1
              have HSP : Hid (spn (syncN t.ln n j ++ syncP t.ln j k) ++ [.int .i64 (j : Int), .int .i64 (k : Int), .int .i64 v] = spn (syncN t.ln n j ++ syncP t.ln j (k + 1))) := Lib.hid (by
                have h2 := HST.out
                simp only [if_true] at h2
                rw [h2, ← List.append_assoc, spn_snoc])
              go_wp2_with (first
                | (at_builtin
                   refine wpList_append_row _ rfl (.tmp 31) (.tmp 36) _ rfl w2.heap.size 33 i0 _ 3 24 Try.underlying31 hi0 hz0 hz1 hz2 rfl (by omega) (.slice A no c) no (spn (syncN t.ln n j ++ syncP t.ln j k)) rfl (ow_alloc HO4.out _) _ _ 1 1 [.int .i64 (j : Int), .int .i64 (k : Int), .int .i64 v] rfl rfl (row_lit w4 _ _) (tri_one _ _ _) (by simp only [maxLen]; omega) (by omega) (by simp; omega) ?_
                   intro q5 w8 o5 g5 t5
                   obtain ⟨A8, c8, rfl⟩ := ow_slice (m := no + 1) o5 rfl
                   rw [HSP.out] at o5
                   have HB8 : Hid (Below w2.heap.size w2 w8) := (HB4.out.alloc hbs4 _).grown g5 (by simp; omega) (fun g hg => own_base HO4.out g hg)
                   have HO8 := Lib.hid o5
                   clear o5 g5 t5))
              go_roundw
              case rel => exact ⟨k + 1, no + 1, c8, A8, by omega, by go_num, rfl, HO8, HB8⟩
              case measure => simp [intOf] <;> omega
          · obtain rfl : k = n := by omega
            have HO5 : Hid (wr.ownsRow w2.heap.size 33 3 (.slice A no c) no (spn (syncN t.ln k (j + 1)))) := Lib.hid (by
              have := HO.out
              rwa [← syncN_succ] at this)
            go_wp2
            go_roundw
            case rel => exact ⟨j + 1, no, c, A, by omega, by go_num, rfl, HO5, HB⟩
            case measure => simp [intOf] <;> omega
      · obtain rfl : j = n := by omega
        go_wp2
        go_ret
        obtain ⟨r1, r2, r3⟩ := ow_row HO.out
        have hle := HO.out.1
        rw [spn_len] at hle
        obtain rfl : (syncN t.ln j j).length = no := by omega
        exact ⟨A, c, rfl, r2, r3, r1, HBw.out⟩
set_option maxRecDepth 100000 in
set_option maxHeartbeats 4000000 in
theorem sync_any (x : TA) (t : BT) (w : World) (h : TabAt w w.heap.size x t) (hsm : t.cls.length ≤ 1000 ∧ t.act.length ≤ 1000) :
    Calls Try.prog 12 #[x.val t] w (RetT w (syncL t)) := by
  have CV := Lib.hid (fun (u : World) (hu : Below w.heap.size w u) (v' : Bool) (hv' : v' = true ↔ validT t) => valid_any x t u (h.below hu).lt hsm v' hv')
  have CS := Lib.hid (fun (u : World) (hu : Below w.heap.size w u) (hs : soundP t.ln t.lm t.cls.length t.act.length) (p q : Nat) (h2 : p < t.cls.length) (h3 : q < t.cls.length) => reached_any x.ln x.lm x.cln x.clm t.lm.length t.cls.length t.act.length t.ln t.lm p q u ((h.below hu).lt).2.2.1.1.1 hs h2 h3)
  unfold TA.val at CV ⊢
  obtain ⟨i0, hi0, hz0, hz1, hz2⟩ := info_parts tri_info
  obtain ⟨w1, hw1, HB1, HK1⟩ := boxT w 28 x t
  obtain ⟨q0, q1, q2, q3, q4, q5, ql⟩ := tab6 HK1.out
  by_cases gv : validT t
  case neg =>
    rw [syncL_neg gv]
    clear h
    go_enter Try.func12, Try.ntmps12
    go_upto_region 1 with fail
    rw [← hw1]
    clear hw1
    go_wp2_with fail
    refine (CV.out w1 HB1.out false ⟨fun h => (by cases h), fun h => absurd h gv⟩).mono ?_
    rintro e w2 ⟨rfl, hb2⟩
    have HB2 := Lib.hid (HB1.out.trans (hb2.mono HB1.out.size))
    clear hb2
    go_wp2
    go_ret
    exact ⟨none, 0, rfl, by simp, by simp [maxLen], Row.nil, HB2.out⟩
  case pos =>
    rw [syncL_pos gv]
    have hso := gv.2.2.2.1
    have hn60 := gv.1.1.2
    have HG := Lib.hid gv
    have CS1 := Lib.hid (fun (u : World) (hu : Below w.heap.size w u) (p q : Nat) (h2 : p < t.cls.length) (h3 : q < t.cls.length) => CS.out u hu hso p q h2 h3)
    have HAF := Lib.hid (fun (p q : Nat) (h2 : p < t.cls.length) (h3 : q < t.cls.length) => (aft_fit hso (s := 0) (x := p) (y := q) (by have := hso.1.1; omega) h2 h3).choose_spec.2.2.1)
    obtain ⟨n, hn⟩ : ∃ n, t.cls.length = n := ⟨_, rfl⟩
    have HN := Lib.hid hn
    rw [hn] at q0 hw1 CV hn60 CS1 HAF
    rw [hn]
    clear h hn hso gv CS hsm
    go_enter Try.func12, Try.ntmps12
    go_upto_region 1 with fail
    rw [← hw1]
    clear hw1
    go_wp2_with fail
    refine (CV.out w1 HB1.out true ⟨fun _ => HG.out, fun _ => rfl⟩).mono ?_
    rintro e w2 ⟨rfl, hb2⟩
    have HB2 := Lib.hid (HB1.out.trans (hb2.mono HB1.out.size))
    have HK2 := Lib.hid (HK1.out.after hb2)
    have hbs2 := HB2.out.size
    clear hb2 q0 q1 q2 q3 q4 q5 ql
    obtain ⟨q0, q1, q2, q3, q4, q5, ql⟩ := tab6 HK2.out
    rw [HN.out] at q0
    go_wp2
    clear q0 q1 q2 q3 q4 q5 ql
    go_loopw [3, 14] (fun o i wr => ∃ (j no c : Nat) (A : Option Addr), j ≤ n ∧ i = .int .i64 (j : Int) ∧ o = .slice A no c ∧ Hid (wr.ownsRow w2.heap.size 33 3 (.slice A no c) no (spn (syncN t.ln n j))) ∧ Hid (Below w2.heap.size w2 wr)) (fun _ i _ => n - (intOf i).toNat)
    case atStart => exact ⟨0, 0, 0, none, Nat.zero_le _, rfl, rfl, own_nil _, Below.refl _ _⟩
    case round =>
      rename World => wo
      obtain ⟨j, no, c, A, hj, rfl, rfl, HO, HB⟩ := hrel
      have HBw := Lib.hid (HB2.out.trans (HB.out.mono hbs2))
      have HKr := Lib.hid (HK2.out.after HB.out)
      obtain ⟨p0, p1, p2, p3, p4, p5, pl⟩ := tab6 HKr.out
      rw [HN.out] at p0
      by_cases hjn : j < n
      · have HO0 : Hid (wo.ownsRow w2.heap.size 33 3 (.slice A no c) no (spn (syncN t.ln n j ++ syncP t.ln j 0))) := Lib.hid (by
          have := HO.out
          rwa [syncP_zero, List.append_nil])
        go_wp2
        clear p0 p1 p2 p3 p4 p5 pl HKr HBw HO
        go_loopw [3, 20] (fun o i wr => ∃ (k no c : Nat) (A : Option Addr), k ≤ n ∧ i = .int .i64 (k : Int) ∧ o = .slice A no c ∧ Hid (wr.ownsRow w2.heap.size 33 3 (.slice A no c) no (spn (syncN t.ln n j ++ syncP t.ln j k))) ∧ Hid (Below w2.heap.size w2 wr)) (fun _ i _ => n - (intOf i).toNat)
        case atStart => exact ⟨0, no, c, A, Nat.zero_le _, rfl, rfl, HO0, HB⟩
        case round =>
          clear HO0 HB
          obtain ⟨k, no, c, A, hk, rfl, rfl, HO, HB⟩ := hrel
          have HBw := Lib.hid (HB2.out.trans (HB.out.mono hbs2))
          have HKr := Lib.hid (HK2.out.after HB.out)
          obtain ⟨p0, p1, p2, p3, p4, p5, pl⟩ := tab6 HKr.out
          rw [HN.out] at p0
          by_cases hkn : k < n
          · have HST := Lib.hid (syncP_succ t.ln j k)
            have CJ := fun (u : World) (hu : Below w.heap.size w u) => CS1.out u hu j k hjn hkn
            have HA := HAF.out j k hjn hkn
            obtain ⟨sb, hsb⟩ : ∃ sb, sngB t.ln (j : Int) (k : Int) = sb := ⟨_, rfl⟩
            obtain ⟨f0, hf0⟩ : ∃ f0, aft t.ln 0 (j : Int) (k : Int) = f0 := ⟨_, rfl⟩
            obtain ⟨v, hv⟩ : ∃ v, (if sb then f0 else 0) = v := ⟨_, rfl⟩
            rw [hsb, hf0] at HST
            simp only [hsb, hf0, hv] at CJ
            replace CJ := Lib.hid CJ
            have HV2 := Lib.hid hv
            have HF0 : Hid (0 ≤ f0) := Lib.hid (by rw [← hf0]; simpa using HA)
            clear hv hsb hf0 HA
            go_wp2_with fail
            refine (CJ.out wr HBw.out).mono ?_
            rintro e w4 ⟨rfl, hb4⟩
            have HB4 : Hid (Below w2.heap.size w2 w4) := HB.out.trans (hb4.mono HB.out.size)
            have HO4 := Lib.hid (ow_below HO.out hb4)
            have hbs4 := HB4.out.size
            clear hb4 p0 p1 p2 p3 p4 p5 pl
            cases sb
            · obtain rfl : v = 0 := HV2.out.symm
              have HO5 : Hid (w4.ownsRow w2.heap.size 33 3 (.slice A no c) no (spn (syncN t.ln n j ++ syncP t.ln j (k + 1)))) := Lib.hid (by
                have h1 := HO4.out
                have h2 := HST.out
                simp only [Bool.false_eq_true, if_false, List.append_nil] at h2
                rwa [h2])
              go_wp2
              go_roundw
              case rel => exact ⟨k + 1, no, c, A, by omega, by go_num, rfl, HO5, HB4⟩
              case measure => simp [intOf] <;> omega
            · obtain rfl : v = f0 := HV2.out.symm
              have dv : 0 ≤ v := HF0.out
              have dv' : decide (0 ≤ v) = true := decide_eq_true dv
              have hno := sync_no hn60 hj hk HO4.out.1
              have HSP : Hid (spn (syncN t.ln n j ++ syncP t.ln j k) ++ [.int .i64 (j : Int), .int .i64 (k : Int), .int .i64 v] = spn (syncN t.ln n j ++ syncP t.ln j (k + 1))) := Lib.hid (by
                have h2 := HST.out
                simp only [if_true] at h2
                rw [h2, ← List.append_assoc, spn_snoc])
              go_wp2_with (first
                | (at_builtin
                   refine wpList_append_row _ rfl (.tmp 32) (.tmp 37) _ rfl w2.heap.size 33 i0 _ 3 24 Try.underlying31 hi0 hz0 hz1 hz2 rfl (by omega) (.slice A no c) no (spn (syncN t.ln n j ++ syncP t.ln j k)) rfl (ow_alloc HO4.out _) _ _ 1 1 [.int .i64 (j : Int), .int .i64 (k : Int), .int .i64 v] rfl rfl (row_lit w4 _ _) (tri_one _ _ _) (by simp only [maxLen]; omega) (by omega) (by simp; omega) ?_
                   intro q5 w8 o5 g5 t5
                   obtain ⟨A8, c8, rfl⟩ := ow_slice (m := no + 1) o5 rfl
                   rw [HSP.out] at o5
                   have HB8 : Hid (Below w2.heap.size w2 w8) := (HB4.out.alloc hbs4 _).grown g5 (by simp; omega) (fun g hg => own_base HO4.out g hg)
                   have HO8 := Lib.hid o5
                   clear o5 g5 t5))
              go_roundw
              case rel => exact ⟨k + 1, no + 1, c8, A8, by omega, by go_num, rfl, HO8, HB8⟩
              case measure => simp [intOf] <;> omega
          · obtain rfl : k = n := by omega
            have HO5 : Hid (wr.ownsRow w2.heap.size 33 3 (.slice A no c) no (spn (syncN t.ln k (j + 1)))) := Lib.hid (by
              have := HO.out
              rwa [← syncN_succ] at this)
            go_wp2
            go_roundw
            case rel => exact ⟨j + 1, no, c, A, by omega, by go_num, rfl, HO5, HB⟩
            case measure => simp [intOf] <;> omega
      · obtain rfl : j = n := by omega
        go_wp2
        go_ret
        obtain ⟨r1, r2, r3⟩ := ow_row HO.out
        have hle := HO.out.1
        rw [spn_len] at hle
        obtain rfl : (syncN t.ln j j).length = no := by omega
        exact ⟨A, c, rfl, r2, r3, r1, HBw.out⟩
end Go.Proofs.Ytkoojoogddndnaa
