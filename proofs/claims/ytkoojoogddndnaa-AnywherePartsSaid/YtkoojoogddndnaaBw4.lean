/-
  Names of classes: breakrule.wordByte, isWord, isName, namesValid, Check (without rules).
-/
import Derived.Test.YtkoojoogddndnaaBw3
import Derived.Test.YtkoojoogddndnaaMks
namespace Go.Proofs.Ytkoojoogddndnaa
open Go.RowKit Go.UtYtkoojoogddndnaa
attribute [local go_sem high] str_eql str_neq
set_option maxRecDepth 100000 in
theorem wordByte_any (b : UInt8) (w : World) : Calls Try.prog 105 #[.int .u8 (b.toNat : Int)] w fun e w' => e = .returned (.bool (nbyte b)) ∧ w' = w := by
  have HNB := Lib.hid (nbyte_eq b)
  obtain ⟨bn, hbn⟩ : ∃ bn, b.toNat = bn := ⟨_, rfl⟩
  rw [hbn] at HNB ⊢
  clear hbn
  go_enter Try.func105, Try.ntmps105
  go_wp2
  all_goals
    go_ret
    refine ⟨ret_bool ?_, rfl⟩
    rw [HNB.out, Bool.eq_iff_iff]
    simp
    omega
set_option maxRecDepth 100000 in
theorem isWord_any (s : Nm) (w : World) (v : Bool) (hv : decide (s ∈ bwords) = v) : Calls Try.prog 106 #[.string ⟨s.toArray⟩] w fun e w' => e = .returned (.bool v) ∧ w' = w := by
  have HV := Lib.hid hv
  clear hv
  by_cases h : s ∈ bwords
  · have HF : Hid (v = true) := by
      show _ = _
      rw [← HV.out]
      exact decide_eq_true h
    unfold bwords at h
    simp only [List.mem_cons, List.mem_nil_iff, or_false] at h
    go_enter Try.func106, Try.ntmps106
    rcases h with rfl | rfl | rfl | rfl | rfl | rfl | rfl
    all_goals
      go_wp2
      go_ret
      exact ⟨ret_bool HF.out.symm, rfl⟩
  · have HF : Hid (v = false) := by
      show _ = _
      rw [← HV.out]
      exact decide_eq_false h
    unfold bwords at h
    simp only [List.mem_cons, List.mem_nil_iff, or_false, not_or] at h
    obtain ⟨h1, h2, h3, h4, h5, h6, h7⟩ := h
    have d1 := decide_eq_false h1
    have d2 := decide_eq_false h2
    have d3 := decide_eq_false h3
    have d4 := decide_eq_false h4
    have d5 := decide_eq_false h5
    have d6 := decide_eq_false h6
    have d7 := decide_eq_false h7
    clear h1 h2 h3 h4 h5 h6 h7
    go_enter Try.func106, Try.ntmps106
    go_wp2
    go_ret
    exact ⟨ret_bool HF.out.symm, rfl⟩
def nmW (s : Nm) : Bool := s.all nbyte && (!decide (s = []) && !decide (s ∈ bwords))
set_option maxRecDepth 100000 in
set_option maxHeartbeats 1000000 in
theorem isName_any (s : Nm) (w : World) (v : Bool) (hv : nmW s = v) (hl : s.length ≤ maxLen) :
    Calls Try.prog 92 #[.string ⟨s.toArray⟩] w fun e w' => e = .returned (.bool v) ∧ w' = w := by
  have HV := Lib.hid hv
  have hsz := ba_size s
  obtain ⟨n, hn⟩ : ∃ n, s.length = n := ⟨_, rfl⟩
  have HN := Lib.hid hn
  rw [hn] at hsz hl
  unfold maxLen at hl
  clear hv hn
  go_enter Try.func92, Try.ntmps92
  go_wp2
  go_loopw [6] (fun i wr => ∃ k : Nat, k ≤ n ∧ i = .int .i64 (k : Int) ∧ Hid ((s.take k).all nbyte = true) ∧ wr = w) (fun i _ => n - (intOf i).toNat)
  case atStart => exact ⟨0, by omega, rfl, by show _ = _; simp, rfl⟩
  case round =>
    obtain ⟨k, hk, rfl, HK, hw⟩ := hrel
    subst wr
    by_cases hkn : k < n
    · obtain ⟨b, hb⟩ : ∃ b, s[k]? = some b := ⟨_, List.getElem?_eq_getElem (by rw [HN.out]; exact hkn)⟩
      have HBK := Lib.hid hb
      have qI := run_idx (P := Try.prog) Try.underlying9 s k b hb
      clear hb
      cases hnb : nbyte b with
      | true =>
        have HNB := Lib.hid hnb
        have HK' : Hid ((s.take (k + 1)).all nbyte = true) := (all_bytes HK.out HBK.out).trans hnb
        clear hnb
        go_wp2_with fail
        refine (wordByte_any b w).mono ?_
        rintro e w' ⟨rfl, hw⟩
        subst w'
        rw [HNB.out]
        go_wp2
        go_roundw
        case rel => exact ⟨k + 1, by omega, by go_num, HK', by trivial⟩
        case measure => simp [intOf]; omega
      | false =>
        have HNB := Lib.hid hnb
        have HF : Hid (v = false) := by
          show _ = _
          rw [← HV.out]
          unfold nmW
          rw [not_all HBK.out hnb]
          rfl
        clear hnb
        go_wp2_with fail
        refine (wordByte_any b w).mono ?_
        rintro e w' ⟨rfl, hw⟩
        subst w'
        rw [HNB.out]
        go_wp2
        go_ret
        exact ⟨ret_bool HF.out.symm, rfl⟩
    · have HF : Hid (v = (!decide (s = []) && !decide (s ∈ bwords))) := by
        show _ = _
        have h1 := HK.out
        rw [List.take_of_length_le (by rw [HN.out]; omega)] at h1
        rw [← HV.out]
        unfold nmW
        rw [h1]
        rfl
      by_cases g1 : s = []
      · have d1 : decide (s = []) = true := decide_eq_true g1
        rw [d1] at HF
        clear g1
        go_wp2
        go_ret
        refine ⟨ret_bool ?_, rfl⟩
        rw [HF.out]
        rfl
      · have d1 : decide (s = []) = false := decide_eq_false g1
        rw [d1] at HF
        clear g1
        go_wp2_with fail
        refine (isWord_any s w _ rfl).mono ?_
        rintro e w' ⟨rfl, hw⟩
        subst w'
        go_wp2
        go_ret
        refine ⟨ret_bool ?_, rfl⟩
        rw [HF.out]
        simp
theorem nmW_name (s : Nm) : (nmW s = true ∧ s.length ≤ 32) ↔ (nameB s = true ∧ s ∉ bwords) := by
  unfold nmW nameB
  constructor
  · rintro ⟨h1, h2⟩
    simp only [Bool.and_eq_true, Bool.not_eq_true', decide_eq_false_iff_not, decide_eq_true_eq] at h1 ⊢
    exact ⟨⟨⟨List.length_pos_iff.2 h1.2.1, h2⟩, h1.1⟩, h1.2.2⟩
  · rintro ⟨h1, h2⟩
    simp only [Bool.and_eq_true, Bool.not_eq_true', decide_eq_false_iff_not, decide_eq_true_eq] at h1 ⊢
    exact ⟨⟨h1.2, List.length_pos_iff.1 h1.1.1, h2⟩, h1.1.2⟩
/-- the names so far, as keys -/
def seenM (l : List Nm) : List (Nm × Value) := l.map fun s => (s, .bool true)
theorem seen_look {l : List Nm} {s : Nm} : lkpS (seenM l) s = if s ∈ l then some (.bool true) else none := by
  induction l with
  | nil => simp [seenM, lkpS]
  | cons a l ih =>
    unfold lkpS seenM at ih ⊢
    simp only [List.map_cons, List.find?_cons]
    by_cases h : s = a
    · subst h; simp
    · rw [decide_eq_false h]
      simp only [ih, List.mem_cons, h, false_or]
theorem bool_zero (w : World) : (zeroValue 4).run Try.prog w = .ok (.bool false) w := by
  simp [go_sem]
set_option maxRecDepth 100000 in
set_option maxHeartbeats 2000000 in
theorem namesValid_any (A : Option Addr) (c : Nat) (l : List Nm) (w : World) (h : StrsAt w w.heap.size A l) (_hc : l.length ≤ c) (_hm : c ≤ maxLen) (v : Bool) (hv : v = true ↔ clsOk l) :
    Calls Try.prog 74 #[.slice A l.length c] w fun e w' => e = .returned (.bool v) ∧ Below w.heap.size w w' := by
  have HV := Lib.hid hv
  have HR := Lib.hid h.1
  have HL := Lib.hid h.2
  obtain ⟨n, hn⟩ : ∃ n, l.length = n := ⟨_, rfl⟩
  have HN := Lib.hid hn
  rw [hn]
  clear hv h hn
  have hmm := @run_makeMap Try.prog
  by_cases g1 : n < 1
  · have HF : Hid (v = false) := bool_neg HV.out (fun h => by have := h.1.1; rw [HN.out] at this; omega)
    go_enter Try.func74, Try.ntmps74
    go_wp2
    go_ret
    exact ⟨ret_bool HF.out.symm, Below.refl _ _⟩
  by_cases g2 : 60 < n
  · have HF : Hid (v = false) := bool_neg HV.out (fun h => by have := h.1.2; rw [HN.out] at this; omega)
    go_enter Try.func74, Try.ntmps74
    go_wp2
    go_ret
    exact ⟨ret_bool HF.out.symm, Below.refl _ _⟩
  have d1 : decide (n < 1) = false := decide_eq_false g1
  have d2 : decide (60 < n) = false := decide_eq_false g2
  obtain ⟨w1, hw1, HB1, HM1⟩ : ∃ u, u = w.alloc (.map #[] 0) ∧ Hid (Below w.heap.size w u) ∧ Hid (MapS u w.heap.size (seenM [])) := ⟨_, rfl, (Below.refl _ _).alloc (Nat.le_refl _) _, MapS.new w⟩
  go_enter Try.func74, Try.ntmps74
  go_upto_region 4 with fail
  rw [← hw1]
  clear hw1
  go_wp2
  go_loopw [17] (fun i wr => ∃ k : Nat, k ≤ n ∧ i = .int .i64 (k : Int) ∧ Hid (∀ s ∈ l.take k, nameB s = true ∧ s ∉ bwords) ∧ Hid (distL (l.take k)) ∧ Hid (MapS wr w.heap.size (seenM (l.take k))) ∧ Hid (Below w.heap.size w wr)) (fun i _ => n - (intOf i).toNat)
  case atStart => exact ⟨0, by omega, rfl, fun s hs => by simp at hs, fun i j a b _ ha _ => by simp at ha, HM1, HB1⟩
  case round =>
    obtain ⟨k, hk, rfl, HK, HD, HM, HB⟩ := hrel
    by_cases hkn : k < n
    · obtain ⟨b, o, s, rfl, hb, hx, cc⟩ := (HR.out.below HB.out).at_str (k := k) (by rw [HN.out]; exact hkn)
      have hsl := HL.out s (List.mem_of_getElem? hx.out)
      have hbw : b < wr.heap.size := by have := HB.out.size; omega
      have hsz := ba_size s
      obtain ⟨ns, hns⟩ : ∃ n, s.length = n := ⟨_, rfl⟩
      have HNS := Lib.hid hns
      rw [hns] at hsz
      clear hns
      cases hnb : nmW s with
      | false =>
        have HNB := Lib.hid hnb
        have HF : Hid (v = false) := bool_neg HV.out (fun h => by have := (nmW_name s).2 (h.2.1 s (List.mem_of_getElem? hx.out)); rw [hnb] at this; cases this.1)
        clear hnb
        go_wp2_with fail
        refine (isName_any s wr false HNB.out hsl).mono ?_
        rintro e w' ⟨rfl, hw⟩
        subst w'
        go_wp2
        go_ret
        exact ⟨ret_bool HF.out.symm, HB.out⟩
      | true =>
        have HNB := Lib.hid hnb
        clear hnb
        by_cases h32 : 32 < ns
        · have HF : Hid (v = false) := bool_neg HV.out (fun h => by have := ((nmW_name s).2 (h.2.1 s (List.mem_of_getElem? hx.out))).2; have := HNS.out; omega)
          go_wp2_with fail
          refine (isName_any s wr true HNB.out hsl).mono ?_
          rintro e w' ⟨rfl, hw⟩
          subst w'
          go_wp2
          go_ret
          exact ⟨ret_bool HF.out.symm, HB.out⟩
        · have d3 : decide (32 < ns) = false := decide_eq_false h32
          have HNM := Lib.hid ((nmW_name s).1 ⟨HNB.out, by rw [HNS.out]; omega⟩)
          have HK' := Lib.hid (all_snoc (P := fun s => nameB s = true ∧ s ∉ bwords) HK.out hx.out HNM.out)
          have hlook := look_s (w := wr) Try.underlying9 Try.underlying124 (bool_zero wr) HM.out s
          rw [seen_look] at hlook
          by_cases hse : s ∈ l.take k
          · rw [if_pos hse] at hlook
            simp only [Option.getD_some] at hlook
            have HF : Hid (v = false) := bool_neg HV.out (fun h => by
              obtain ⟨i, hi, e⟩ := List.getElem_of_mem hse
              rw [List.length_take] at hi
              have hi2 : l[i]? = some s := by
                have := List.getElem?_eq_getElem (l := l.take k) (i := i) (by rw [List.length_take]; exact hi)
                rw [List.getElem?_take, if_pos (by omega), e] at this
                exact this
              exact h.2.2 i k s s (by omega) hi2 hx.out rfl)
            go_wp2_with fail
            refine (isName_any s wr true HNB.out hsl).mono ?_
            rintro e w' ⟨rfl, hw⟩
            subst w'
            go_wp2
            go_ret
            exact ⟨ret_bool HF.out.symm, HB.out⟩
          · rw [if_neg hse] at hlook
            simp only [Option.getD_none] at hlook
            have HD' := Lib.hid (dist_snoc HD.out hx.out (fun u hu e => hse (e ▸ hu)))
            have HLK : Hid (lkpS (seenM (l.take k)) s = none) := by
              show _ = _
              rw [seen_look, if_neg hse]
            have HTS : Hid (seenM (l.take (k + 1)) = seenM (l.take k) ++ [(s, .bool true)]) := by
              show _ = _
              obtain ⟨h1, h2⟩ := List.getElem?_eq_some_iff.1 hx.out
              rw [List.take_succ_eq_append_getElem h1, h2]
              simp [seenM]
            go_wp2_with fail
            refine (isName_any s wr true HNB.out hsl).mono ?_
            rintro e w' ⟨rfl, hw⟩
            subst w'
            go_wp2_with (first
              | (at_mapUpdate
                 refine wpList_putS _ rfl _ _ _ 124 rfl 9 4 Try.underlying9 Try.underlying124 w.heap.size (seenM (l.take k)) s (.bool true) rfl rfl rfl HM.out HLK.out ?_
                 intro w7 m7 g7
                 rw [← HTS.out] at m7
                 have M7 := Lib.hid m7
                 have G7 := Lib.hid g7
                 clear m7 g7))
            have HB7 : Hid (Below w.heap.size w w7) := HB.out.grown G7.out HB.out.size (fun x hx => by injection hx with hx; omega)
            go_roundw
            case rel => exact ⟨k + 1, by omega, by go_num, HK', HD', M7, HB7⟩
            case measure => simp [intOf]; omega
    · have HF : Hid (v = true) := HV.out.2 ⟨⟨by rw [HN.out]; omega, by rw [HN.out]; omega⟩, all_take HK.out (by rw [HN.out]; omega), by have := HD.out; rwa [List.take_of_length_le (by rw [HN.out]; omega)] at this⟩
      go_wp2
      go_ret
      exact ⟨ret_bool HF.out.symm, HB.out⟩
set_option maxRecDepth 100000 in
theorem newInsp_any (n : Nat) (w : World) : Calls Try.prog 75 #[.int .i64 (n : Int)] w fun e w' => ∃ mb : Nat, e = .returned (.agg #[.int .i64 (n : Int), .map (some mb)]) ∧ Below w.heap.size w w' := by
  have hmm := @run_makeMap Try.prog
  go_enter Try.func75, Try.ntmps75
  go_wp2
  refine bodyPost_ret (v := .agg #[.int .i64 (n : Int), .map (some (w.heap.size + 1))]) ?_ rfl ⟨_, rfl, ((Below.refl _ _).alloc (Nat.le_refl _) _).alloc (by simp) _⟩
  simp [results, Try.results75, go_sem]
set_option maxRecDepth 100000 in
set_option maxHeartbeats 1000000 in
theorem check28_any (A : Option Addr) (c : Nat) (l : List Nm) (w : World) (h : StrsAt w w.heap.size A l) (hc : l.length ≤ c) (hm : c ≤ maxLen) (v : Bool) (hv : v = true ↔ clsOk l) :
    Calls Try.prog 55 #[.agg #[.slice A l.length c, .slice none 0 0]] w fun e w' => e = .returned (.int .i64 (if v then 0 else 6)) ∧ Below w.heap.size w w' := by
  have HV := Lib.hid hv
  have HR := Lib.hid h
  have CN := Lib.hid (fun u (hu : Below w.heap.size w u) => namesValid_any A c l u (h.below hu).lt hc hm v hv)
  obtain ⟨n, hn⟩ : ∃ n, l.length = n := ⟨_, rfl⟩
  rw [hn] at CN hc ⊢
  clear hv h hn
  have hmm := @run_makeMap Try.prog
  obtain ⟨w1, hw1, HB1, HK1⟩ := boxV w 56 #[.slice A n c, .slice none 0 0]
  obtain ⟨q0, q1, ql⟩ := blk2 HK1.out
  go_enter Try.func55, Try.ntmps55
  go_upto_region 1 with fail
  rw [← hw1]
  clear hw1
  go_wp2_with fail
  refine (CN.out w1 HB1.out).mono ?_
  rintro e w2 ⟨rfl, hb2⟩
  have HB2 := Lib.hid (HB1.out.trans (hb2.mono HB1.out.size))
  have HK2 := Lib.hid (HK1.out.after hb2)
  clear hb2 q0 q1 ql
  obtain ⟨q0, q1, ql⟩ := blk2 HK2.out
  cases v with
  | false =>
    go_wp2
    go_ret
    exact ⟨rfl, HB2.out⟩
  | true =>
    go_wp2_with fail
    refine (newInsp_any n w2).mono ?_
    rintro e w3 ⟨mb, rfl, hb3⟩
    have HB3 := Lib.hid (HB2.out.trans (hb3.mono HB2.out.size))
    have HK3 := Lib.hid (HK2.out.after hb3)
    clear hb3 q0 q1 ql
    obtain ⟨q0, q1, ql⟩ := blk2 HK3.out
    obtain ⟨w4, hw4, HB4, HK4⟩ := boxV w3 107 #[.int .i64 (n : Int), .map (some mb)]
    go_upto_region 4 with fail
    rw [← hw4]
    clear hw4
    have HB4' := Lib.hid (HB3.out.trans (HB4.out.mono HB3.out.size))
    have HK4' := Lib.hid (HK3.out.after HB4.out)
    clear q0 q1 ql
    obtain ⟨q0, q1, ql⟩ := blk2 HK4'.out
    go_wp2
    go_loopw [4, 20] (fun p i wr => p = .int .i64 0 ∧ i = .int .i64 0 ∧ wr = w4) (fun _ _ _ => 0)
    case atStart => exact ⟨rfl, rfl, rfl⟩
    case round =>
      obtain ⟨rfl, rfl, hw⟩ := hrel
      subst wr
      go_wp2
      go_ret
      exact ⟨rfl, HB4'.out⟩
end Go.Proofs.Ytkoojoogddndnaa
