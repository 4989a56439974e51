/-
  seqpool.copied, appended, sequence, place: walks.
-/
import Derived.Test.YteobffcnfigilaaProg
import Derived.Test.YteobffcnfigilaaBase
import Derived.Test.YteobffcnfigilaaApp
import Derived.Test.YteobffcnfigilaaSp0
import Derived.Test.YteobffcnfigilaaSp1
import Derived.Test.YteobffcnfigilaaCp4
import Derived.WalkKit
import Derived.Deep.QuietTactic
import Derived.BigQuiet
import Derived.KernelRfl
import Derived.Outline
import Derived.IntWalk
namespace Go.Proofs.Yteobffcnfigilaa
open Go.RowKit Go.UtYteobffcnfigilaa
attribute [local go_sem high] cut_l cut_lh cut_lhm cutA_zero
attribute [local go_sem 500] cut_any
set_option maxHeartbeats 1000000 in
theorem copied_any (A1 : Option Addr) (c1 B : Nat) (xs : List Int) (w : World) (h1 : Row w B A1 (ints xs)) (hB : B ≤ w.heap.size) (hl : xs.length ≤ 65536) :
    Calls Try.prog 27 #[.slice A1 xs.length c1] w (RetI w xs) := by
  obtain ⟨i0, hi0, hz0, hz1, hz2⟩ := info_parts int_info
  have H1 := Lib.hid h1
  clear h1
  go_enter Try.func27, Try.ntmps27
  go_wp2_with (first
    | (at_make
       refine wpList_make_block _ rfl _ _ 25 rfl 3 i0 _ Try.underlying25 hi0 hz0 hz1 _ _ _ _ xs.length rfl rfl (by omega) (by omega) (by rw [hz2]; omega) (by simp only [maxLen]; omega) ?_
       intro w1 z hzl hz hlt1 hb1
       have HZ := Lib.hid hzl
       clear hzl))
  obtain ⟨w2, hrun, hg2, hb2⟩ := run_copy_into (P := Try.prog) (w := w1) 25 3 3 Try.underlying25 int_size w.heap.size 0 (some ⟨w.heap.size, 0, none⟩) xs.length xs.length (fun _ => rfl)
    B A1 xs.length c1 (ints xs) (ints_len _) (H1.out.below (hb1.out.mono hB)) (by omega) z hz.out (by rw [HZ.out]; omega) (ints_one _) w.heap.size w hb1.out (Nat.le_refl _)
  rw [hrun]
  clear hrun hb1 hz hlt1
  go_wp2_with fail
  go_ret
  have hfin := hg2.out
  have e3 : splice z 0 (ints xs) = ints xs := by
    simp only [splice, List.take_zero, List.nil_append, Nat.zero_add]
    rw [List.drop_eq_nil_of_le (by rw [ints_len, HZ.out]; omega), List.append_nil]
  rw [e3] at hfin
  exact ⟨some ⟨w.heap.size, 0, none⟩, xs.length, rfl, Nat.le_refl _, by simp only [maxLen]; omega, Row.of_block hfin (fun k v h => by simpa using h), hb2.out⟩
set_option maxHeartbeats 1000000 in
theorem appended_any (A1 A2 : Option Addr) (c1 c2 B : Nat) (xs ys : List Int) (w : World) (h1 : Row w B A1 (ints xs)) (h2 : Row w B A2 (ints ys)) (hc : xs.length ≤ c1) (hl : xs.length + ys.length ≤ 65536) :
    Calls Try.prog 32 #[.slice A1 xs.length c1, .slice A2 ys.length c2] w (RetI w (xs ++ ys)) := by
  obtain ⟨i0, hi0, hz0, hz1, hz2⟩ := info_parts int_info
  have H1 := Lib.hid h1
  have H2 := Lib.hid h2
  clear h1 h2
  go_enter Try.func32, Try.ntmps32
  go_wp2_with (first
    | (at_builtin
       refine wpList_append_full _ rfl (.tmp 10) (.tmp 11) _ rfl 3 i0 _ 1 8 Try.underlying25 hi0 hz0 hz1 hz2 rfl (by omega) B A1 xs.length (ints xs) rfl (by simp [ints_len]) H1.out (row_none H1.out)
         B A2 ys.length c2 (ints ys) rfl (by simp [ints_len]) H2.out (ints_one _) (by simp only [maxLen]; omega) (by omega) ?_
       intro A' c' w1 k1 k2 k3 k4 k5
       have K3 := Lib.hid k3
       have K4 := Lib.hid k4
       clear k3 k4 k5))
  go_ret
  refine ⟨A', c', by simp, by simpa using k1, k2, ?_, K4.out⟩
  rw [ints_append]
  exact K3.out
theorem appended_n (A1 A2 : Option Addr) (n1 n2 c1 c2 B : Nat) (xs ys r : List Int) (w : World) (h1 : Row w B A1 (ints xs)) (h2 : Row w B A2 (ints ys)) (e1 : xs.length = n1) (e2 : ys.length = n2) (er : xs ++ ys = r) (hc : n1 ≤ c1) (hl : n1 + n2 ≤ 65536) :
    Calls Try.prog 32 #[.slice A1 n1 c1, .slice A2 n2 c2] w (RetI w r) := by
  subst e1 e2 er
  exact appended_any A1 A2 c1 c2 B xs ys w h1 h2 hc hl
set_option maxHeartbeats 1000000 in
theorem sequence_any (C S L : Option Addr) (cC cS cL B : Nat) (cs ss ls : List Int) (w : World) (hC : Row w B C (ints cs)) (hS : Row w B S (ints ss)) (hL : Row w B L (ints ls)) (hB : B ≤ w.heap.size)
    (lc : cs.length ≤ cC) (lm : cC ≤ maxLen) (k s l : Nat) (hs : ss[k]? = some (s : Int)) (hl : ls[k]? = some (l : Int)) (h : s + l ≤ cs.length) :
    Calls Try.prog 29 #[.agg #[.slice C cs.length cC, .slice S ss.length cS, .slice L ls.length cL], .int .i64 (k : Int)] w (RetI w ((cs.drop s).take l)) := by
  unfold maxLen at lm
  have HB0 : Hid (Below w.heap.size w (w.alloc (.cells #[.slice C cs.length cC, .slice S ss.length cS, .slice L ls.length cL] 27))) := (Below.refl _ _).alloc (Nat.le_refl _) _
  have HX : Hid (Blk (w.alloc (.cells #[.slice C cs.length cC, .slice S ss.length cS, .slice L ls.length cL] 27)) w.heap.size 27 #[.slice C cs.length cC, .slice S ss.length cS, .slice L ls.length cL]) := Blk.new _ _ _
  have h1 : k < ss.length := (List.getElem?_eq_some_iff.1 hs).1
  have h2 : k < ls.length := (List.getElem?_eq_some_iff.1 hl).1
  have HC := Lib.hid (hC.below (HB0.out.mono hB))
  obtain ⟨b, o, x, rfl, hb, hx, hc⟩ := (hS.below (HB0.out.mono hB)).at_int h1
  obtain ⟨b', o', y, rfl, hb', hy, hc'⟩ := (hL.below (HB0.out.mono hB)).at_int h2
  obtain rfl : x = (s : Int) := Option.some.inj (hx.out.symm.trans hs)
  obtain rfl : y = (l : Int) := Option.some.inj (hy.out.symm.trans hl)
  have hbl : b < w.heap.size := by omega
  have hbl' : b' < w.heap.size := by omega
  have k4 : IntKind.i64.wrap ((s : Int) + (l : Int)) = (s : Int) + (l : Int) := IntWalk.i64_in _ (by omega)
  have k5 : ((s : Int) + (l : Int)).toNat = s + l := by omega
  have k6 : (s : Int) ≤ (s : Int) + (l : Int) := by omega
  have k7 : (s : Int) + (l : Int) ≤ (cC : Int) := by omega
  clear hC hS hL hs hl hx hy
  go_enter Try.func29, Try.ntmps29
  go_wp2
  go_quiet (fail)
  go_wp2
  go_quiet (fail)
  go_wp2
  go_ret
  refine ⟨cutA C (s + l) s 1, s + l - s, ?_, ?_, ?_, ?_, ?_⟩
  · simp; omega
  · simp; omega
  · simp only [maxLen]; omega
  · have := (HC.out.mid (l := s) (m := s + l)).lt
    rw [show s + l - s = l by omega] at this
    exact this
  · exact below_drewN (below_drewN HB0.out _) _
theorem agr_in {cs seq : List Int} {k : Nat} (h : k + seq.length ≤ cs.length) : agr cs seq k = decide ((cs.drop k).take seq.length = seq) := by
  unfold agr
  rw [List.take_of_length_le (l := seq) (by omega)]
theorem agr_out {cs seq : List Int} {n : Nat} (h : n ≤ seq.length) (h' : n ≤ cs.length) : agr cs seq (cs.length - n) = decide (cs.drop (cs.length - n) = seq.take n) := by
  unfold agr
  rw [show cs.length - (cs.length - n) = n by omega, List.take_of_length_le (l := cs.drop (cs.length - n)) (by simp; omega)]
def RetPlace (w : World) (k : Nat) (xs : List Int) (e : Ending) (w' : World) : Prop :=
  ∃ A c, e = .returned (.tuple #[.int .i64 (k : Int), .slice A xs.length c]) ∧ xs.length ≤ c ∧ c ≤ maxLen ∧ Row w' w'.heap.size A (ints xs) ∧ Below w.heap.size w w'
set_option maxHeartbeats 2000000 in
theorem place_any (A1 A2 : Option Addr) (c1 c2 B : Nat) (cs seq : List Int) (w : World) (h1 : Row w B A1 (ints cs)) (h2 : Row w B A2 (ints seq)) (lc : cs.length ≤ c1) (lm : c1 ≤ maxLen) (lc2 : seq.length ≤ c2) (lm2 : c2 ≤ maxLen) (hl : cs.length + seq.length ≤ 65536) :
    Calls Try.prog 31 #[.slice A1 cs.length c1, .slice A2 seq.length c2] w (RetPlace w (fst14 cs seq) (put14 cs seq)) := by
  have H1 := Lib.hid h1
  have H2 := Lib.hid h2
  have HM := Lib.hid lm
  have HM2 := Lib.hid lm2
  unfold maxLen at lm lm2
  clear h1 h2
  go_enter Try.func31, Try.ntmps31
  go_wp2
  go_loopw [6] (fun i wr => ∃ k : Nat, k ≤ cs.length + 1 ∧ i = .int .i64 k ∧ Hid (∀ j, j < k → agr cs seq j = false) ∧ Hid (∃ n, wr = w.drewN n)) (fun i _ => cs.length + 1 - (intOf i).toNat)
  case atStart => exact ⟨0, by omega, rfl, fun j hj => by omega, 0, rfl⟩
  case round =>
    obtain ⟨k, hk, rfl, HK, HW⟩ := hrel
    have R1 : Hid (Row wr B A1 (ints cs)) := by obtain ⟨n, hn⟩ := HW.out; rw [hn]; exact H1.out
    have R2 : Hid (Row wr B A2 (ints seq)) := by obtain ⟨n, hn⟩ := HW.out; rw [hn]; exact H2.out
    by_cases h3 : k + seq.length ≤ cs.length
    · have k5 : ((k : Int) + (seq.length : Int)).toNat = k + seq.length := by omega
      have HA := Lib.hid (agr_in h3)
      have HR : Hid (Row wr B (cutA A1 c1 k 1) (ints ((cs.drop k).take seq.length))) := by
        have := R1.out.cut (l := k) (m := c1) (s := 1) (j := seq.length) (.inl (by rw [ints_len]; omega))
        rw [Nat.mul_one] at this
        rw [ints_take, ints_drop]
        exact this
      have HE : Hid (((cs.drop k).take seq.length).length = seq.length) := by show _ = _; simp; omega
      cases hd : decide ((cs.drop k).take seq.length = seq) with
      | true =>
        have HD := Lib.hid hd
        clear hd
        have HF : Hid (fst14 cs seq = k) := fst_eq ⟨by omega, HA.out.trans HD.out, HK.out⟩
        have HP : Hid (put14 cs seq = cs) := by
          show _ = _
          unfold put14
          rw [HF.out, List.drop_eq_nil_of_le (by omega), List.append_nil]
        go_wp2_with fail
        refine (cequal_v _ _ _ _ _ _ B _ seq _ HR.out R2.out HE.out rfl (by simp only [maxLen]; omega) (by simp only [maxLen]; omega) true HD.out).mono ?_
        rintro e w1 ⟨rfl, n1, rfl⟩
        go_wp2
        go_ret2
        rw [HF.out, HP.out]
        refine ⟨A1, c1, rfl, lc, HM.out, R1.out.lt, ?_⟩
        obtain ⟨n, hn⟩ := HW.out
        subst hn
        exact below_drewN (below_drewN (Below.refl _ _) _) _
      | false =>
        have HD := Lib.hid hd
        clear hd
        have HN : Hid (∀ j, j < k + 1 → agr cs seq j = false) := fun j hj => by
          rcases Nat.lt_succ_iff_lt_or_eq.1 hj with h | rfl
          · exact HK.out j h
          · exact HA.out.trans HD.out
        go_wp2_with fail
        refine (cequal_v _ _ _ _ _ _ B _ seq _ HR.out R2.out HE.out rfl (by simp only [maxLen]; omega) (by simp only [maxLen]; omega) false HD.out).mono ?_
        rintro e w1 ⟨rfl, n1, rfl⟩
        go_wp2
        go_roundw
        case rel =>
          refine ⟨k + 1, by omega, by go_num, HN, ?_⟩
          obtain ⟨n, hn⟩ := HW.out
          subst hn
          exact ⟨_, World.drewN_drewN _ _ _⟩
        case measure => simp [intOf]; omega
    · have HL0 : Hid (∀ j, j + seq.length ≤ cs.length → agr cs seq j = false) := fun j hj => HK.out j (by omega)
      clear HK R1 R2
      go_wp2
      all_goals
        go_loopw [7] (fun i wq => ∃ n : Nat, n ≤ cs.length ∧ n ≤ seq.length ∧ i = .int .i64 n ∧ Hid (∀ j, j < cs.length - n → agr cs seq j = false) ∧ Hid (∃ n, wq = w.drewN n)) (fun i _ => (intOf i).toNat)
        case atStart =>
          first
            | exact ⟨seq.length, by omega, by omega, rfl, fun j hj => HL0.out j (by omega), HW⟩
            | exact ⟨cs.length, by omega, by omega, rfl, fun j hj => by omega, HW⟩
        case round =>
          obtain ⟨n, hn1, hn2, rfl, HK, HV⟩ := hrel
          have Q1 : Hid (Row wr B A1 (ints cs)) := by obtain ⟨n, hn⟩ := HV.out; rw [hn]; exact H1.out
          have Q2 : Hid (Row wr B A2 (ints seq)) := by obtain ⟨n, hn⟩ := HV.out; rw [hn]; exact H2.out
          have HA := Lib.hid (agr_out hn2 hn1)
          have HT1 : Hid (Row wr B (cutA A1 c1 (cs.length - n) 1) (ints (cs.drop (cs.length - n)))) := Q1.out.tail lc
          have HT2 : Hid (Row wr B A2 (ints (seq.take n))) := Q2.out.init
          have HE1 : Hid ((cs.drop (cs.length - n)).length = cs.length - (cs.length - n)) := List.length_drop
          have HE2 : Hid ((seq.take n).length = n) := by show _ = _; simp; omega
          have m1 : (0 : Int) ≤ (cs.length : Int) - (n : Int) := by omega
          have m2 : (cs.length : Int) - (n : Int) ≤ (cs.length : Int) := by omega
          have m3 : (n : Int) ≤ (c2 : Int) := by omega
          have m4 : ((cs.length : Int) - (n : Int)).toNat = cs.length - n := by omega
          have m5 : IntKind.i64.wrap ((cs.length : Int) - (n : Int)) = (cs.length : Int) - (n : Int) := IntWalk.i64_in _ (by omega)
          cases hd : decide (cs.drop (cs.length - n) = seq.take n) with
          | true =>
            have HD := Lib.hid hd
            clear hd
            have HF : Hid (fst14 cs seq = cs.length - n) := fst_eq ⟨by omega, HA.out.trans HD.out, HK.out⟩
            have HP : Hid (cs ++ seq.drop n = put14 cs seq) := by
              show _ = _
              unfold put14
              rw [HF.out, show cs.length - (cs.length - n) = n by omega]
            go_wp2
            go_quiet ((go_at_call 28; exact Calls.quiet_of (cequal_v _ _ _ _ _ _ B _ _ _ (HT1.out.drewN _) (HT2.out.drewN _) HE1.out HE2.out (by simp only [maxLen]; omega) (by simp only [maxLen]; omega) true HD.out)))
            clear m1 m2 m3 m4 m5
            go_wp2_with fail
            refine (appended_n _ _ _ _ _ _ B cs (seq.drop n) (put14 cs seq) _ (Q1.out.drewN _) ((Q2.out.tail lc2).drewN _) rfl List.length_drop HP.out lc (by omega)).mono ?_
            rintro e w2 ⟨A', c', rfl, g1, g2, g3, g4⟩
            have G3 := Lib.hid g3
            have G4 := Lib.hid g4
            have G1 := Lib.hid g1
            clear g3 g4 g1
            go_wp2
            go_ret2
            rw [HF.out]
            refine ⟨A', c', ?_, G1.out, g2, G3.out, ?_⟩
            · rw [show (((cs.length - n : Nat)) : Int) = (cs.length : Int) - (n : Int) by omega]
              rfl
            · obtain ⟨q, hq⟩ := HV.out
              subst hq
              exact (below_drewN (below_drewN (Below.refl _ _) _) _).trans G4.out
          | false =>
            have HD := Lib.hid hd
            clear hd
            have hpos : 0 < n := by
              rcases Nat.eq_zero_or_pos n with rfl | h
              · have := HD.out
                simp at this
              · exact h
            obtain ⟨q, rfl⟩ : ∃ q, n = q + 1 := ⟨n - 1, by omega⟩
            have HN : Hid (∀ j, j < cs.length - q → agr cs seq j = false) := fun j hj => by
              by_cases h : j < cs.length - (q + 1)
              · exact HK.out j h
              · rw [show j = cs.length - (q + 1) by omega]
                exact HA.out.trans HD.out
            go_wp2
            go_quiet ((go_at_call 28; exact Calls.quiet_of (cequal_v _ _ _ _ _ _ B _ _ _ (HT1.out.drewN _) (HT2.out.drewN _) HE1.out HE2.out (by simp only [maxLen]; omega) (by simp only [maxLen]; omega) false HD.out)))
            clear m1 m2 m3 m4 m5
            go_wp2
            go_roundw
            case rel =>
              refine ⟨q, by omega, by omega, by go_num, HN, ?_⟩
              obtain ⟨u, hu⟩ := HV.out
              subst hu
              exact ⟨_, World.drewN_drewN _ _ _⟩
            case measure => simp [intOf]
end Go.Proofs.Yteobffcnfigilaa
