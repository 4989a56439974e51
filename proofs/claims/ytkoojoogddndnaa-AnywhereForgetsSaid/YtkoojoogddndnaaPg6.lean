/-
  ref29.Minimize (printed by pg6.py).
-/
import Derived.Test.YtkoojoogddndnaaPg3
import Derived.Deep.LoopGhost
namespace Go.UtYtkoojoogddndnaa
open Go.RowKit
/-- how far the numbers lie below their places -/
def gapF : Nat → List Int → Nat
  | _, [] => 0
  | i, x :: xs => (i - x.toNat) + gapF (i + 1) xs
theorem gapF_le : ∀ (xs bs : List Int) (i : Nat), xs.length = bs.length → (∀ (k : Nat) (a b : Int), xs[k]? = some a → bs[k]? = some b → 0 ≤ a ∧ a ≤ b ∧ b ≤ ((i + k : Nat) : Int)) → gapF i bs ≤ gapF i xs ∧ (bs ≠ xs → gapF i bs < gapF i xs)
  | [], [], i, _, _ => by simp
  | a :: xs, b :: bs, i, hl, h => by
    obtain ⟨h1, h2⟩ := gapF_le xs bs (i + 1) (by simpa using hl) (fun k x y hx hy => by
      have := h (k + 1) x y (by simpa using hx) (by simpa using hy)
      rwa [show i + (k + 1) = i + 1 + k by omega] at this)
    obtain ⟨g1, g2, g3⟩ := h 0 a b rfl rfl
    simp only [gapF]
    refine ⟨by omega, fun hne => ?_⟩
    by_cases hab : a = b
    · subst hab
      have := h2 (fun e => hne (by rw [e]))
      omega
    · omega
  | [], b :: bs, i, hl, _ => by simp at hl
  | a :: xs, [], i, hl, _ => by simp at hl
/-- numbers up to their places -/
def BOk (b : List Int) (N : Nat) : Prop := b.length = N ∧ ∀ (k : Nat) (x : Int), b[k]? = some x → 0 ≤ x ∧ x ≤ (k : Int)
theorem BOk.zeros (N : Nat) : BOk (List.replicate N 0) N := ⟨by simp, fun k x hx => by
  rw [List.getElem?_replicate] at hx
  split at hx
  · injection hx with hx
    omega
  · cases hx⟩
end Go.UtYtkoojoogddndnaa
namespace Go.Proofs.Ytkoojoogddndnaa
open Go.RowKit Go.UtYtkoojoogddndnaa Go.Deep
theorem DivOk.bok {old out : List Int} {N : Nat} (h : DivOk old out N) : BOk out N := ⟨h.1, fun k x hx => ⟨(h.2 k x hx).1, (h.2 k x hx).2.1⟩⟩
theorem DivOk.gap {old out : List Int} {N : Nat} (h : DivOk old out N) (ho : BOk old N) : gapF 0 out ≤ gapF 0 old ∧ (out ≠ old → gapF 0 out < gapF 0 old) :=
  gapF_le old out 0 (by rw [ho.1, h.1]) (fun k a b ha hb => by
    obtain ⟨h1, h2, h3⟩ := h.2 k b hb
    obtain ⟨g1, g2⟩ := ho.2 k a ha
    rw [ha] at h3
    have := (ho.2 b.toNat a h3.symm).2
    refine ⟨g1, by omega, by omega⟩)
theorem nodup_bound {rs : List Int} {N : Nat} (h : rs.Nodup) (hb : ∀ y ∈ rs, 0 ≤ y ∧ y < (N : Int)) : rs.length ≤ N := by
  have := nodup_len (U := (List.range N).map (fun n : Nat => (n : Int))) h (fun y hy => by
    have := hb y hy
    rw [List.mem_map]
    exact ⟨y.toNat, by rw [List.mem_range]; omega, by omega⟩)
  simpa using this
set_option maxRecDepth 100000 in
set_option maxHeartbeats 8000000 in
theorem minimize29_any (A A' : Option Addr) (c c' n N : Nat) (nx mk : List (List Int)) (w : World) (hA : AutAt w w.heap.size A c A' c' nx mk) (hU : Aut n N nx mk) (hn : n ≤ 60) (hN : N ≤ 2000) (hN1 : 1 ≤ N) :
    Calls Try.prog 54 #[.agg #[.slice A N c, .slice A' N c'], .int .i64 (n : Int)] w fun e w' => ∃ (A1 A2 : Option Addr) (c1 c2 : Nat) (nx' mk' : List (List Int)), e = .returned (.agg #[.slice A1 nx'.length c1, .slice A2 mk'.length c2]) ∧ AutAt (era w' (fun b => b < w.heap.size)) w'.heap.size A1 c1 A2 c2 nx' mk' ∧ Below w.heap.size w w' := by
  obtain ⟨i2, hi2, hx0, hx1, hx2⟩ := info_parts is_info
  obtain ⟨i3, hi3, hw0, hw1, hw2⟩ := info_parts in_info31
  have HA := Lib.hid hA
  have HU := Lib.hid hU
  obtain ⟨u1, hu1, HU1, HKu1⟩ := boxV w 26 #[.slice A N c, .slice A' N c']
  have hu1s : u1.heap.size = w.heap.size + 1 := by rw [hu1]; simp
  obtain ⟨w1, hw1', HB1, HK1⟩ := boxV u1 26 #[.slice none 0 0, .slice none 0 0]
  rw [hu1s] at HK1
  have hw1s : w1.heap.size = w.heap.size + 2 := by rw [hw1']; simp [hu1s]
  have HBw1 : Hid (Below w.heap.size w w1) := Lib.hid (HU1.out.trans (HB1.out.mono (by omega)))
  have HKP1 : Hid (Blk w1 w.heap.size 26 #[.slice A N c, .slice A' N c']) := Lib.hid (HKu1.out.after HB1.out)
  have HA1 := Lib.hid (AutAt.below HA.out HBw1.out)
  clear hA hU
  go_enter Try.func54, Try.ntmps54
  go_upto_region 1 with fail
  rw [← hu1, ← hw1']
  clear hu1 hw1' HKu1 hu1s
  obtain ⟨p0, p1, pl⟩ := blk2 HKP1.out
  go_wp2_with (first
    | (at_make
       refine wpList_make_zero _ rfl _ _ 23 rfl 3 i3 _ Try.underlying23 hi3 hw0 hw1 rfl _ _ _ _ N rfl rfl (by omega) (by omega) (by rw [hw2]; omega) (by simp only [maxLen]; omega) ?_
       intro w3 hk3 hb3))
  rw [rep_ints] at hk3
  have HZ : Hid (Row w3 w3.heap.size (some ⟨w.heap.size + 2, 0, none⟩) (ints (List.replicate N 0))) := Lib.hid (by
    have := hk3.out.row rfl
    rw [hw1s] at this
    exact this)
  have HB3 := hb3
  clear hk3 hb3 p0 p1 pl
  go_loopg [5, 6] (gapF 0 (List.replicate N 0) + 1) (fun gk bv mv wr => ∃ (blk : List Int) (Ab : Option Addr) (cb : Nat) (m : Bool), gk = gapF 0 blk + (if m then 1 else 0) ∧ bv = .slice Ab N cb ∧ mv = .bool m ∧ Hid (Row wr wr.heap.size Ab (ints blk)) ∧ Hid (BOk blk N) ∧ Hid (Below w1.heap.size w1 wr))
  case atStart => exact ⟨List.replicate N 0, _, _, true, rfl, rfl, rfl, HZ, Lib.hid (BOk.zeros N), HB3⟩
  case round =>
    obtain ⟨blk, Ab, cb, m, hgk, rfl, rfl, HRB, HBO, HB⟩ := hrel
    have hbs := HB.out.size
    have HKP := Lib.hid (HKP1.out.below HB.out (by omega))
    obtain ⟨p0, p1, pl⟩ := blk2 HKP.out
    have HAr := Lib.hid (AutAt.lt (AutAt.below HA1.out (HB.out.mono (by omega))))
    have HGK := Lib.hid hgk
    clear hgk
    cases m
    · obtain ⟨w4, hw4, HB4, HK4⟩ := boxV wr 3 #[.int .i64 0]
      have hw4s : w4.heap.size = wr.heap.size + 1 := by rw [hw4]; simp
      obtain ⟨w5, hw5, HB5, HK5⟩ := boxV w4 26 #[.slice none 0 0, .slice none 0 0]
      rw [hw4s] at HK5
      have HF5 := Lib.hid (four_lit IntV.keeps IntsV.keeps IntsV.keeps IntV.keeps (t1 := 3) (t2 := 23) (t3 := 23) (t4 := 3) (E := fun b => b < w.heap.size + 2) (x := (0 : Int)) (Nat.le_refl wr.heap.size) (fun b h => by have h' : b < w.heap.size + 2 := h; omega) rfl hw4 hw5)
      have HBw5 : Hid (Below wr.heap.size wr w5) := Lib.hid (HB4.out.trans (HB5.out.mono (by omega)))
      obtain ⟨go, hgo⟩ : ∃ z, z = wr.heap.size + 1 := ⟨_, rfl⟩
      rw [← hgo] at HK5 HF5
      have HGO := Lib.hid hgo
      obtain ⟨nb, hnb⟩ : ∃ z, z = wr.heap.size := ⟨_, rfl⟩
      have HNB := Lib.hid hnb
      go_wp2
      rw [← hgo, ← hw4, ← hw5]
      clear hw4 hw5 hgo p0 p1 pl HK4 hw4s
      rw [← hnb] at HF5 HBw5 ⊢
      obtain ⟨wb, hwb⟩ : ∃ z, z = wr := ⟨_, rfl⟩
      subst hwb
      rw [← hnb] at hbs
      change Hid (Four (EG2 (fun b => b < w.heap.size + 2) go) _ ⟨IntV, 3, nb, _, _, _, _⟩ ⟨IntsV, 23, nb, _, _, _, _⟩ ⟨IntsV, 23, nb, _, _, _, _⟩ _) at HF5
      have hgw : nb < go := by have := HGO.out; omega
      clear hnb
      go_loopw [8, 10] (fun lv iv wr => ∃ (i nR cR cN cM : Nat) (AR AN AM : Option Addr) (rs : List Int) (nx' mk' : List (List Int)), i ≤ nR ∧ nR ≤ N ∧ iv = .int .i64 (i : Int) ∧ lv = .slice AR nR cR ∧ Hid (Four (EG2 (fun b => b < w.heap.size + 2) go) wr ⟨IntV, 3, nb, AR, cR, nR, rs⟩ ⟨IntsV, 23, nb, AN, cN, i, nx'⟩ ⟨IntsV, 23, nb, AM, cM, i, mk'⟩ ⟨IntV, 3, nb, none, 0, 0, []⟩) ∧ Hid (Blk wr go 26 #[.slice AN i cN, .slice AM i cM]) ∧ Hid (rs.Nodup ∧ ∀ y ∈ rs, 0 ≤ y ∧ y < (N : Int)) ∧ Hid (Below nb wb wr)) (fun _ i _ => N + 1 - (intOf i).toNat)
      case atStart => exact ⟨0, 1, 1, 0, 0, _, none, none, _, [], [], by omega, by omega, rfl, rfl, HF5, HK5, Lib.hid ⟨by simp, by simp; omega⟩, HBw5⟩
      case round =>
        obtain ⟨i, nR, cR, cN, cM, AR, AN, AM, rs, nx', mk', hi, hnR, rfl, rfl, HF, HK, HRS, HB'⟩ := hrel
        obtain ⟨wo, hwo⟩ : ∃ z, z = wr := ⟨_, rfl⟩
        subst hwo
        have hbo : nb ≤ wo.heap.size := by have := HB'.out.size; have := HNB.out; omega
        have HBo : Hid (Below w1.heap.size w1 wo) := Lib.hid (HB.out.trans (HB'.out.mono hbs))
        have p0 := HK.out.cell 0
        have p1 := HK.out.cell 1
        have pl := HK.out.lt
        by_cases hin : i < nR
        · go_wp2
          clear p0 p1 pl
          go_loopw [8, 11, 12] (fun lv xv iv wr => ∃ (k nR' cR' cX : Nat) (AR' AX : Option Addr) (rs' xs : List Int), k ≤ n ∧ nR ≤ nR' ∧ nR' ≤ N ∧ iv = .int .i64 (k : Int) ∧ lv = .slice AR' nR' cR' ∧ xv = .slice AX k cX ∧ Hid (Four (EG2 (fun b => b < w.heap.size + 2) go) wr ⟨IntV, 3, nb, AR', cR', nR', rs'⟩ ⟨IntsV, 23, nb, AN, cN, i, nx'⟩ ⟨IntsV, 23, nb, AM, cM, i, mk'⟩ ⟨IntV, 3, nb, AX, cX, k, xs⟩) ∧ Hid (Blk wr go 26 #[.slice AN i cN, .slice AM i cM]) ∧ Hid (rs'.Nodup ∧ ∀ y ∈ rs', 0 ≤ y ∧ y < (N : Int)) ∧ Hid (Below nb wb wr)) (fun _ _ i _ => n - (intOf i).toNat)
          case atStart => exact ⟨0, nR, cR, 0, AR, none, rs, [], by omega, by omega, by omega, rfl, rfl, rfl, HF, HK, HRS, HB'⟩
          case round =>
            obtain ⟨k, nR', cR', cX, AR', AX, rs', xs, hk, hRR, hRN, rfl, rfl, rfl, HFk, HKk, HRk, HBk⟩ := hrel
            obtain ⟨wk, hwk⟩ : ∃ z, z = wr := ⟨_, rfl⟩
            subst hwk
            have hbk : nb ≤ wk.heap.size := by have := HBk.out.size; have := HNB.out; omega
            have HBk1 : Hid (Below w1.heap.size w1 wk) := Lib.hid (HB.out.trans (HBk.out.mono hbs))
            obtain ⟨bR, oR, uR, rv, hAr, hbR, hrv, qR, hPv⟩ := HFk.out.o1.2.1.at_ IntV.keeps (k := i) (show i < nR' by omega)
            change AR' = _ at hAr
            subst hAr
            change uR = .int .i64 rv at hPv
            subst hPv
            obtain ⟨hrv0, hrv1⟩ := HRk.out.2 rv (List.mem_of_getElem? hrv.out)
            obtain ⟨rn, rfl⟩ : ∃ rn : Nat, rv = (rn : Int) := ⟨rv.toNat, by omega⟩
            have hrn : rn < N := by omega
            have hil : i < nR' := by omega
            have HKPk := Lib.hid (HKP1.out.below HBk1.out (by omega))
            have HAk := Lib.hid (AutAt.below HA1.out (HBk1.out.mono (by omega)))
            by_cases hkn : k < n
            · obtain ⟨b1, o1, b2, o2, c2, y, hA1, hb1, cc1, hb2, cc2, hy⟩ := HU.out.at_ HAk.out.1.1 hrn hkn
              subst hA1
              obtain ⟨b3, o3, tt, hA3, hb3, hto, cc3⟩ := ((HRB.out.below (HBk.out.mono (by have := HNB.out; omega))).at_int (k := y) (by rw [HBO.out.1]; exact hy))
              subst hA3
              obtain ⟨ht0, ht1⟩ := HBO.out.2 y tt hto.out
              obtain ⟨p0, p1, pl⟩ := blk2 HKPk.out
              have l1 : b1 < wk.heap.size := by have := HBk1.out.size; omega
              have l2 : b2 < wk.heap.size := by have := HBk1.out.size; omega
              have l3 : b3 < wk.heap.size := by have := HNB.out; omega
              have hto2 : tt < (N : Int) := by omega
              go_wp2
              go_quiet (fail)
              go_wp2
              clear p0 p1 pl cc1 cc2 cc3 l1 l2 l3
              go_loopw [14] (fun iv wr => ∃ (q : Nat), q ≤ nR' ∧ iv = .int .i64 (q : Int) ∧ Hid (∀ z ∈ rs'.take q, z ≠ tt) ∧ Hid (Below wk.heap.size wk wr)) (fun i _ => nR' - (intOf i).toNat)
              case atStart => exact ⟨0, by omega, rfl, Lib.hid (by simp), below_drewN (Below.refl _ _) _⟩
              case round =>
                obtain ⟨q, hq, rfl, HNQ, HBQ⟩ := hrel
                obtain ⟨wq, hwq⟩ : ∃ z, z = wr := ⟨_, rfl⟩
                subst hwq
                have HFq := Lib.hid (HFk.out.after HBQ.out)
                have HKq := Lib.hid (HKk.out.after HBQ.out)
                have HBq : Hid (Below nb wb wq) := Lib.hid (HBk.out.trans (HBQ.out.mono hbk))
                have hHBq : nb ≤ wq.heap.size := Nat.le_trans hbk HBQ.out.size
                by_cases hqn : q < nR'
                · obtain ⟨b4, o4, u4, z, hA4, hb4, hz, q4, hPz⟩ := HFq.out.o1.2.1.at_ IntV.keeps (k := q) hqn
                  change some _ = _ at hA4
                  injection hA4 with hA4
                  injection hA4 with e1 e2
                  subst e1 e2
                  change u4 = .int .i64 z at hPz
                  subst hPz
                  by_cases hzt : z = tt
                  · have hnq : ¬ q = nR' := by omega
                    have dz : decide (z = tt) = true := decide_eq_true hzt
                    have bz : (z != tt) = false := by simp [hzt]
                    have HZT := Lib.hid hzt
                    clear hzt
                    obtain ⟨w9, hw9, HB9, HK9⟩ := boxV wq 3 #[.int .i64 (q : Int)]
                    have HF9 := Lib.hid (HFq.out.after HB9.out).rot.rot.rot
                    have HL9 : Hid (Row w9 (wq.heap.size + 1) (some ⟨wq.heap.size, 0, none⟩) [.int .i64 (q : Int)]) := Lib.hid (by
                      rw [hw9]
                      exact row_lit wq _ _)
                    have HKb9 := Lib.hid (HKq.out.after HB9.out)
                    have hB9 : nb ≤ w9.heap.size := Nat.le_trans hHBq HB9.out.size
                    go_wp2_with (first
                      | (at_builtin
                         rw [← hw9]
                         refine wpList_push w9 IntV.keeps rfl (.tmp 77) (.tmp 79) 23 rfl (U4 (EG2 (fun b => b < w.heap.size + 2) go) AX (some ⟨bR, oR, none⟩) AN AM) nb 3 i3 _ 8 Try.underlying23 hi3 hw0 hw1 hw2 rfl AX cX k xs rfl HF9.out.o1.2.1 _ _ 1 _ (q : Int) rfl HL9.out rfl rfl (by simp only [maxLen]; omega) (by omega) hB9 ?_
                         intro A10 c10 w10 HO10 HK10 HG10
                         clear hw9))
                    have HF10 := Lib.hid (HF9.out.push1 HO10.out HK10.out HG10.out).rot
                    have HKb10 : Hid (Blk w10 go 26 #[.slice AN i cN, .slice AM i cM]) := Lib.hid ((HK10.out.2 go HKb9.out.lt (HF9.out.o1.2.2 go (.inr rfl))).trans HKb9.out)
                    have HB10 : Hid (Below nb wb w10) := Lib.hid ((HBq.out.trans (HB9.out.mono hHBq)).trans HK10.out.1)
                    go_roundw
                    case rel => exact ⟨k + 1, nR', cR', c10, (some ⟨bR, oR, none⟩), A10, rs', xs ++ [(q : Int)], by omega, by omega, by omega, by go_num, rfl, rfl, HF10, HKb10, HRk, HB10⟩
                    case measure => simp [intOf] <;> omega
                  · have dz : decide (z = tt) = false := decide_eq_false hzt
                    have bz : (z != tt) = true := by simpa using hzt
                    have HNQ' := Lib.hid (all_snoc (P := fun z => z ≠ tt) HNQ.out hz.out hzt)
                    go_wp2
                    go_roundw
                    case rel => exact ⟨q + 1, by omega, by go_num, HNQ', HBQ⟩
                    case measure => simp [intOf] <;> omega
                · obtain rfl : q = nR' := by omega
                  obtain ⟨w7, hw7, HB7, HK7⟩ := boxV wq 3 #[.int .i64 tt]
                  have HF7 := Lib.hid (HFq.out.after HB7.out)
                  have HL7 : Hid (Row w7 (wq.heap.size + 1) (some ⟨wq.heap.size, 0, none⟩) [.int .i64 tt]) := Lib.hid (by
                    rw [hw7]
                    exact row_lit wq _ _)
                  have HKb7 := Lib.hid (HKq.out.after HB7.out)
                  have hB7 : nb ≤ w7.heap.size := Nat.le_trans hHBq HB7.out.size
                  have hrl := HFq.out.o1.2.1.1
                  have HRS8 : Hid ((rs' ++ [tt]).Nodup ∧ ∀ y ∈ rs' ++ [tt], 0 ≤ y ∧ y < (N : Int)) := Lib.hid ⟨nodup_snoc HRk.out.1 (fun h => all_take HNQ.out (Nat.le_of_eq hrl) tt h rfl), fun y hy => by
                    rcases List.mem_append.1 hy with hy | hy
                    · exact HRk.out.2 y hy
                    · simp at hy
                      subst hy
                      exact ⟨ht0, hto2⟩⟩
                  clear hrl
                  go_wp2_with (first
                    | (at_builtin
                       rw [← hw7]
                       refine wpList_push w7 IntV.keeps rfl (.tmp 73) (.tmp 75) 23 rfl (U4 (EG2 (fun b => b < w.heap.size + 2) go) (some ⟨bR, oR, none⟩) AN AM AX) nb 3 i3 _ 8 Try.underlying23 hi3 hw0 hw1 hw2 rfl (some ⟨bR, oR, none⟩) cR' q rs' rfl HF7.out.o1.2.1 _ _ 1 _ tt rfl HL7.out rfl rfl (by simp only [maxLen]; omega) (by omega) hB7 ?_
                       intro A8 c8 w8 HO8 HK8 HG8
                       clear hw7
                       have HF8 := Lib.hid (HF7.out.push1 HO8.out HK8.out HG8.out)
                       have HK8b : Hid (Blk w8 go 26 #[.slice AN i cN, .slice AM i cM]) := Lib.hid ((HK8.out.2 go HKb7.out.lt (HF7.out.o1.2.2 go (.inr rfl))).trans HKb7.out)
                       have HB8 : Hid (Below nb wb w8) := Lib.hid ((HBq.out.trans (HB7.out.mono hHBq)).trans HK8.out.1)
                       have hHB8 : nb ≤ w8.heap.size := Nat.le_trans hB7 HK8.out.1.size
                       obtain ⟨w9, hw9, HB9, HK9⟩ := boxV w8 3 #[.int .i64 (q : Int)]
                       have HF9 := Lib.hid (HF8.out.after HB9.out).rot.rot.rot
                       have HL9 : Hid (Row w9 (w8.heap.size + 1) (some ⟨w8.heap.size, 0, none⟩) [.int .i64 (q : Int)]) := Lib.hid (by
                         rw [hw9]
                         exact row_lit w8 _ _)
                       have HKb9 := Lib.hid (HK8b.out.after HB9.out)
                       have hB9 : nb ≤ w9.heap.size := Nat.le_trans hHB8 HB9.out.size)
                    | (at_builtin
                       rw [← hw9]
                       refine wpList_push w9 IntV.keeps rfl (.tmp 77) (.tmp 79) 23 rfl (U4 (EG2 (fun b => b < w.heap.size + 2) go) AX A8 AN AM) nb 3 i3 _ 8 Try.underlying23 hi3 hw0 hw1 hw2 rfl AX cX k xs rfl HF9.out.o1.2.1 _ _ 1 _ (q : Int) rfl HL9.out rfl rfl (by simp only [maxLen]; omega) (by omega) hB9 ?_
                       intro A10 c10 w10 HO10 HK10 HG10
                       clear hw9))
                  have HF10 := Lib.hid (HF9.out.push1 HO10.out HK10.out HG10.out).rot
                  have HKb10 : Hid (Blk w10 go 26 #[.slice AN i cN, .slice AM i cM]) := Lib.hid ((HK10.out.2 go HKb9.out.lt (HF9.out.o1.2.2 go (.inr rfl))).trans HKb9.out)
                  have HB10 : Hid (Below nb wb w10) := Lib.hid ((HB8.out.trans (HB9.out.mono hHB8)).trans HK10.out.1)
                  go_roundw
                  case rel => exact ⟨k + 1, (q + 1), c8, c10, A8, A10, (rs' ++ [tt]), xs ++ [(q : Int)], by omega, by omega, by have := nodup_bound HRS8.out.1 HRS8.out.2; rw [HF8.out.o1.2.1.1] at this; exact this, by go_num, rfl, rfl, HF10, HKb10, HRS8, HB10⟩
                  case measure => simp [intOf] <;> omega
            · obtain rfl : k = n := by omega
              obtain ⟨hFd, hXd⟩ := HFk.out.drop4 nb
              have HFd := Lib.hid hFd
              have HXd := Lib.hid hXd
              clear hFd hXd
              obtain ⟨p0, p1, pl⟩ := blk2 HKPk.out
              obtain ⟨w5', hw5, HB5', HK5'⟩ := boxV wk 23 #[.slice AX k cX]
              have HF5' := Lib.hid (HFd.out.after HB5'.out).rot
              have HL5 : Hid (Row w5' (wk.heap.size + 1) (some ⟨wk.heap.size, 0, none⟩) [.slice AX k cX]) := Lib.hid (by
                rw [hw5]
                exact row_lit wk _ _)
              have HX5 : Hid (IntsV (era w5' (OwnX (U4 (EG2 (fun b => b < w.heap.size + 2) go) AN AM none (some ⟨bR, oR, none⟩)) AN)) w5'.heap.size (.slice AX k cX) xs) := Lib.hid (IntsV.keeps.less (IntsV.keeps.eraGrow HXd.out HB5'.out) (fun b h => by
                unfold OwnX U4 at h
                unfold U4
                rcases h with ((h | h | h | h | h) | h)
                · exact .inl h
                · exact .inr (.inr (.inl h))
                · exact .inr (.inr (.inr (.inl h)))
                · exact absurd h own_none
                · exact .inr (.inl h)
                · exact .inr (.inr (.inl h))))
              have HKb5 := Lib.hid (HKk.out.after HB5'.out)
              have hB5 : nb ≤ w5'.heap.size := Nat.le_trans hbk HB5'.out.size
              have k0 := HKk.out.cell 0
              have k1 := HKk.out.cell 1
              have kl := HKk.out.lt
              go_wp2_with (first
                | (at_builtin
                   rw [← hw5]
                   refine wpList_push w5' IntsV.keeps rfl (.tmp 82) (.tmp 84) 24 rfl (U4 (EG2 (fun b => b < w.heap.size + 2) go) AN AM none (some ⟨bR, oR, none⟩)) nb 23 i2 _ 24 Try.underlying24 hi2 hx0 hx1 hx2 rfl AN cN i nx' rfl HF5'.out.o1.2.1 _ _ 1 _ xs rfl HL5.out rfl HX5.out (by simp only [maxLen]; omega) (by omega) hB5 ?_
                   intro A6 c6 w6 HO6 HK6 HG6
                   clear hw5
                   have HF6 := Lib.hid (HF5'.out.push1 HO6.out HK6.out HG6.out).rot.rot.rot
                   have HKb6 : Hid (Blk w6 go 26 #[.slice AN i cN, .slice AM i cM]) := Lib.hid ((HK6.out.2 go HKb5.out.lt (HF5'.out.o1.2.2 go (.inr rfl))).trans HKb5.out)
                   have HB6 : Hid (Below nb wb w6) := Lib.hid ((HBk.out.trans (HB5'.out.mono hbk)).trans HK6.out.1)
                   have kk0 := HKb6.out.cell 0
                   have kk1 := HKb6.out.cell 1
                   have kkl := HKb6.out.lt
                   have kf0 := HKb6.out.free 0
                   obtain ⟨w7, hw7, HF7, HK7, HB7⟩ : ∃ z, z = w6.setCell ⟨go, 0, none⟩ (.slice A6 (i + 1) c6) ∧ Hid (Four (EG2 (fun b => b < w.heap.size + 2) go) z ⟨IntV, 3, nb, (some ⟨bR, oR, none⟩), cR', nR', rs'⟩ ⟨IntsV, 23, nb, A6, c6, i + 1, (nx' ++ [xs])⟩ ⟨IntsV, 23, nb, AM, cM, i, mk'⟩ ⟨IntV, 3, nb, none, 0, 0, []⟩) ∧ Hid (Blk z go 26 #[.slice A6 (i + 1) c6, .slice AM i cM]) ∧ Hid (Below nb wb z) :=
                     ⟨_, rfl, Lib.hid (HF6.out.store (fun b hb => set1_keep.1 b (fun e => hb (.inr e))) set1_keep.2), Lib.hid (HKb6.out.set_ 0 _), Lib.hid (HB6.out.setCell (p := ⟨go, 0, none⟩) (Nat.le_of_lt hgw) _)⟩))
              rw [← hw7]
              clear hw7 k0 k1 kl kk0 kk1 kkl kf0 p0 p1 pl
              obtain ⟨b8, o8, u8, rv8, hA8, hb8, hx8, q8, hP8⟩ := HF7.out.o1.2.1.at_ IntV.keeps (k := i) hil
              change some _ = _ at hA8
              injection hA8 with hA8
              injection hA8 with hA8 hA9
              subst hA8 hA9
              change u8 = .int .i64 rv8 at hP8
              subst hP8
              obtain rfl : rv8 = (rn : Int) := by
                have h1 := hx8.out
                have h2 := hrv.out
                rw [h1] at h2
                exact Option.some.inj h2
              have HB7w : Hid (Below w1.heap.size w1 w7) := Lib.hid (HB.out.trans (HB7.out.mono hbs))
              have HKP7 := Lib.hid (HKP1.out.below HB7w.out (by omega))
              have HA7 := Lib.hid (AutAt.below HA1.out (HB7w.out.mono (by omega)))
              obtain ⟨bm, om, Mi, ci, mi, hAm, hbm, hmi, cmi, hm1, hm2, hm3⟩ := HA7.out.2.1.at_ (k := rn) (by rw [HU.out.lenM]; exact hrn)
              subst hAm
              have hli := HU.out.mkl mi (List.mem_of_getElem? hmi.out)
              obtain ⟨li, hli'⟩ : ∃ z, mi.length = z := ⟨_, rfl⟩
              rw [hli'] at cmi hli hm1
              have HLI := Lib.hid hli'
              have HM3 := Lib.hid hm3
              have hbR7 : bR < w7.heap.size := hb8
              have hs7 := HB7w.out.size
              have hbm7 : bm < w7.heap.size := by omega
              clear hm3 hli'
              refine wp_region_treeL 15 (fun w' => Blk w' go 26 #[.slice A6 (i + 1) c6, .slice AM i cM] ∧ Blk w' w.heap.size 26 #[.slice A N c, .slice (some ⟨bm, om, none⟩) N c'] ∧ w'.cell? ⟨bR, oR + i, none⟩ = some (.int .i64 (rn : Int)) ∧ w'.cell? ⟨bm, om + rn, none⟩ = some (.slice Mi li ci)) (.float 0 (.float 1 (.float 3 (.float 4 (.float 5 (.float 6 (.float 7 (.float 8 (.float 9 (.float 10 (.one 2 (.one 11 (.one 12 (.one 13 (.float 14 (.one 15 .done)))))))))))))))) (by kernel_rfl) (by kernel_rfl) (fun _ _ d _ _ h => by cases d <;> exact h) ⟨HK7.out.drew, HKP7.out.drew, q8, cmi⟩ ?_
              repeat (first
                | (refine wpTrL_fskip (by simp only [List.getElem?_toArray, List.getElem?_cons_zero, List.getElem?_cons_succ]; rfl) (by rfl) ?_
                   simp only [Act.put, List.setIfInBounds_toArray, List.set_cons_zero, List.set_cons_succ])
                | (refine wpTrL_float (v := ?_) (by simp only [List.getElem?_toArray, List.getElem?_cons_zero, List.getElem?_cons_succ]; rfl) (by rfl) (fun w' hS => ?_) ?_
                   rotate_left
                   ((obtain ⟨hSK, hSP, e1', e2'⟩ := hS; have s0' := hSK.cell 0; have s1' := hSK.cell 1; have sl' := hSK.lt; have z0' := hSP.cell 0; have z1' := hSP.cell 1; have zl' := hSP.lt); go_simp; first | done | rfl)
                   simp only [Act.put, List.setIfInBounds_toArray, List.set_cons_zero, List.set_cons_succ]))
              refine wpTrL_one ?_
              refine stepTrL_K (by simp only [List.getElem?_toArray, List.getElem?_cons_zero, List.getElem?_cons_succ]; rfl) (by rfl) (fun K hK => ?_)
              go_simp
              obtain ⟨w8, hw8, HBL8, HO8⟩ : ∃ z, z = (w7.alloc (.cells #[] 3)).drew ∧ Hid (Below w7.heap.size w7 z) ∧ Hid (z.ownsRow w7.heap.size 3 1 (.slice (some ⟨w7.heap.size, 0, none⟩) 0 0) 0 []) :=
                ⟨_, rfl, Lib.hid ((Below.refl _ _).alloc (Nat.le_refl _) _).drew, Lib.hid (ow_drew (own_mt' w7 _ _ _ rfl))⟩
              rw [← hw8]
              have qw8 := (HBL8.out.cell (p := ⟨bR, oR + i, none⟩) hbR7).trans q8
              have qm8 := (HBL8.out.cell (p := ⟨bm, om + rn, none⟩) hbm7).trans cmi
              have HKK8 := Lib.hid (HK7.out.after HBL8.out)
              have HKP8 := Lib.hid (HKP7.out.after HBL8.out)
              refine hK.out _ _ ⟨HKK8.out, HKP8.out, qw8, qm8⟩ ?_
              clear hK K hw8
              try simp only [Act.put, List.setIfInBounds_toArray, List.set_cons_zero, List.set_cons_succ]
              refine wpTrL_one ?_
              refine stepTrL_K (by simp only [List.getElem?_toArray, List.getElem?_cons_zero, List.getElem?_cons_succ]; rfl) (by rfl) (fun K hK => ?_)
              have HM8 := Lib.hid ((HM3.out.below (HBL8.out.mono (by omega))))
              refine wp_append_row w8 (.tmp 89) (.tmp 97) _ rfl w7.heap.size 3 i3 _ 1 8 Try.underlying23 hi3 hw0 hw1 hw2 rfl (by omega) (.slice (some ⟨w7.heap.size, 0, none⟩) 0 0) 0 [] rfl HO8.out _ _ li ci (ints mi) rfl (by rw [ints_len, HLI.out]; omega) HM8.out (ints_one mi) (by simp only [maxLen]; omega) (by omega) HBL8.out.size ?_
              intro q9 w9 o9 g9 t9
              rw [Nat.zero_add, List.nil_append] at o9
              obtain ⟨A9, c9, rfl⟩ := ow_slice (m := li) o9 rfl
              have HBL9 : Hid (Below w7.heap.size w7 w9) := Lib.hid (HBL8.out.grown g9 HBL8.out.size (fun g hg => by simp [Value.ownBlock] at hg; omega))
              have HXX9 : Hid (IntsV (era w9 (U4 (EG2 (fun b => b < w.heap.size + 2) go) (some ⟨bR, oR, none⟩) A6 AM none)) w9.heap.size (.slice A9 li c9) mi) := Lib.hid (IntsV.of_own o9 HF7.out.lt)
              clear o9 g9 t9
              have qw9 := (HBL9.out.cell (p := ⟨bR, oR + i, none⟩) hbR7).trans q8
              have qm9 := (HBL9.out.cell (p := ⟨bm, om + rn, none⟩) hbm7).trans cmi
              have HKK9 := Lib.hid (HK7.out.after HBL9.out)
              have HKP9 := Lib.hid (HKP7.out.after HBL9.out)
              refine hK.out _ _ ⟨HKK9.out, HKP9.out, qw9, qm9⟩ ?_
              clear hK K
              try simp only [Act.put, List.setIfInBounds_toArray, List.set_cons_zero, List.set_cons_succ]
              refine wpTrL_one ?_
              refine stepTrL_K (by simp only [List.getElem?_toArray, List.getElem?_cons_zero, List.getElem?_cons_succ]; rfl) (by rfl) (fun K hK => ?_)
              go_simp
              obtain ⟨wa, hwa, HBa, HKa⟩ := boxV w9 23 #[.slice A9 li c9]
              have HLa : Hid (Row wa (w9.heap.size + 1) (some ⟨w9.heap.size, 0, none⟩) [.slice A9 li c9]) := Lib.hid (by
                rw [hwa]
                exact row_lit w9 _ _)
              rw [← hwa]
              have HBLa : Hid (Below w7.heap.size w7 wa) := Lib.hid (HBL9.out.trans (HBa.out.mono HBL9.out.size))
              have qwa := (HBLa.out.cell (p := ⟨bR, oR + i, none⟩) hbR7).trans q8
              have qma := (HBLa.out.cell (p := ⟨bm, om + rn, none⟩) hbm7).trans cmi
              have HKKa := Lib.hid (HK7.out.after HBLa.out)
              have HKPa := Lib.hid (HKP7.out.after HBLa.out)
              have HFa := Lib.hid (HF7.out.after HBLa.out).rot.rot
              have hbRa : bR < wa.heap.size := Nat.lt_of_lt_of_le hbR7 HBLa.out.size
              have hnb7 : nb ≤ w7.heap.size := by have := HB7.out.size; have := HNB.out; omega
              have hBa : nb ≤ wa.heap.size := Nat.le_trans hnb7 HBLa.out.size
              have HXXa : Hid (IntsV (era wa (OwnX (U4 (EG2 (fun b => b < w.heap.size + 2) go) AM none (some ⟨bR, oR, none⟩) A6) AM)) wa.heap.size (.slice A9 li c9) mi) := Lib.hid (IntsV.keeps.less (IntsV.keeps.eraGrow HXX9.out HBa.out) (fun b h => by
                unfold OwnX U4 at h
                unfold U4
                rcases h with ((h | h | h | h | h) | h)
                · exact .inl h
                · exact .inr (.inr (.inr (.inl h)))
                · exact absurd h own_none
                · exact .inr (.inl h)
                · exact .inr (.inr (.inl h))
                · exact .inr (.inr (.inr (.inl h)))))
              refine hK.out _ _ ⟨HKKa.out, HKPa.out, qwa, qma⟩ ?_
              clear hK K hwa
              try simp only [Act.put, List.setIfInBounds_toArray, List.set_cons_zero, List.set_cons_succ]
              refine wpTrL_one ?_
              refine stepTrL_K (by simp only [List.getElem?_toArray, List.getElem?_cons_zero, List.getElem?_cons_succ]; rfl) (by rfl) (fun K hK => ?_)
              refine wp_push wa IntsV.keeps (.tmp 88) (.tmp 99) 24 rfl (U4 (EG2 (fun b => b < w.heap.size + 2) go) AM none (some ⟨bR, oR, none⟩) A6) nb 23 i2 _ 24 Try.underlying24 hi2 hx0 hx1 hx2 rfl AM cM i mk' rfl HFa.out.o1.2.1 _ _ 1 _ mi rfl HLa.out rfl HXXa.out (by simp only [maxLen]; omega) (by omega) hBa ?_
              intro A10 c10 w10 HO10 HK10 HG10
              have HF10 := Lib.hid (HFa.out.push1 HO10.out HK10.out HG10.out).rot.rot
              have HKK10 : Hid (Blk w10 go 26 #[.slice A6 (i + 1) c6, .slice AM i cM]) := Lib.hid ((HK10.out.2 go HKKa.out.lt (HFa.out.o1.2.2 go (.inr rfl))).trans HKKa.out)
              have qw10 := (World.cell?_of_block (w := wa) (w' := w10) (a := ⟨bR, oR + i, none⟩) (HK10.out.2 bR hbRa (fun h => HFa.out.a13 bR h rfl))).trans qwa
              have HBx : Hid (Below nb wb w10) := Lib.hid ((HB7.out.trans (HBLa.out.mono hnb7)).trans HK10.out.1)
              have HBxw : Hid (Below w1.heap.size w1 w10) := Lib.hid (HB.out.trans (HBx.out.mono hbs))
              have HKP10 := Lib.hid (HKP1.out.below HBxw.out (by omega))
              have qm10 := ((HBLa.out.mono hnb7).trans HK10.out.1).cell (p := ⟨bm, om + rn, none⟩) (by show bm < nb; omega) |>.trans cmi
              refine hK.out _ _ ⟨HKK10.out, HKP10.out, qw10, qm10⟩ ?_
              clear hK K
              try simp only [Act.put, List.setIfInBounds_toArray, List.set_cons_zero, List.set_cons_succ]
              repeat (first
                | (refine wpTrL_fskip (by simp only [List.getElem?_toArray, List.getElem?_cons_zero, List.getElem?_cons_succ]; rfl) (by rfl) ?_
                   simp only [Act.put, List.setIfInBounds_toArray, List.set_cons_zero, List.set_cons_succ])
                | (refine wpTrL_float (v := ?_) (by simp only [List.getElem?_toArray, List.getElem?_cons_zero, List.getElem?_cons_succ]; rfl) (by rfl) (fun w' hS => ?_) ?_
                   rotate_left
                   ((skip); go_simp; first | done | rfl)
                   simp only [Act.put, List.setIfInBounds_toArray, List.set_cons_zero, List.set_cons_succ]))
              refine wpTrL_one ?_
              refine stepTrL_last (by simp only [List.getElem?_toArray, List.getElem?_cons_zero, List.getElem?_cons_succ]; rfl) (by rfl) (fun K hK => ?_)
              have kk0 := HKK10.out.cell 0
              have kk1 := HKK10.out.cell 1
              have kkl := HKK10.out.lt
              have kf1 := HKK10.out.free 1
              obtain ⟨w11, hw11, HF11, HK11, HB11⟩ : ∃ z, z = w10.setCell ⟨go, 1, none⟩ (.slice A10 (i + 1) c10) ∧ Hid (Four (EG2 (fun b => b < w.heap.size + 2) go) z ⟨IntV, 3, nb, (some ⟨bR, oR, none⟩), cR', nR', rs'⟩ ⟨IntsV, 23, nb, A6, c6, (i + 1), (nx' ++ [xs])⟩ ⟨IntsV, 23, nb, A10, c10, (i + 1), (mk' ++ [mi])⟩ ⟨IntV, 3, nb, none, 0, 0, []⟩) ∧ Hid (Blk z go 26 #[.slice A6 (i + 1) c6, .slice A10 (i + 1) c10]) ∧ Hid (Below nb wb z) :=
                ⟨_, rfl, Lib.hid (HF10.out.store (fun b hb => set1_keep.1 b (fun e => hb (.inr e))) set1_keep.2), Lib.hid (HKK10.out.set_ 1 _), Lib.hid (HBx.out.setCell (p := ⟨go, 1, none⟩) (Nat.le_of_lt hgw) _)⟩
              go_simp
              rw [← hw11]
              refine hK.out _ _ ?_
              clear hK K hw11 kk0 kk1 kkl kf1
              try simp only [Act.put, List.setIfInBounds_toArray, List.set_cons_zero, List.set_cons_succ]
              refine wpTrL_done ?_
              go_wp2
              go_roundw
              case rel => exact ⟨i + 1, nR', cR', c6, c10, some ⟨bR, oR, none⟩, A6, A10, rs', nx' ++ [xs], mk' ++ [mi], by omega, by omega, by go_num, rfl, HF11, HK11, HRk, HB11⟩
              case measure => simp [intOf] <;> omega
        · obtain rfl : i = nR := by omega
          have HKr : Hid (Blk wo (w.heap.size + 1) 26 #[.slice none 0 0, .slice none 0 0]) := Lib.hid (HK1.out.below HBo.out (by omega))
          have r0 := HKr.out.cell 0
          have r1 := HKr.out.cell 1
          have rl := HKr.out.lt
          have f0 := HKr.out.free 0
          have f1 := HKr.out.free 1
          obtain ⟨wf, hwf, HFf, HKf, HBf⟩ : ∃ z, z = (wo.setCell ⟨w.heap.size + 1, 0, none⟩ (.slice AN i cN)).setCell ⟨w.heap.size + 1, 1, none⟩ (.slice AM i cM) ∧ Hid (Four (EG2 (fun b => b < w.heap.size + 2) go) z ⟨IntV, 3, nb, AR, cR, i, rs⟩ ⟨IntsV, 23, nb, AN, cN, i, nx'⟩ ⟨IntsV, 23, nb, AM, cM, i, mk'⟩ ⟨IntV, 3, nb, none, 0, 0, []⟩) ∧ Hid (Blk z (w.heap.size + 1) 26 #[.slice AN i cN, .slice AM i cM]) ∧ Hid (Below w.heap.size w z) :=
            ⟨_, rfl, Lib.hid (HF.out.store (fun b hb => set2_keep.1 b (fun e => hb (.inl (by show b < _; omega)))) set2_keep.2), Lib.hid ((HKr.out.set_ 0 _).set_ 1 _), Lib.hid ((((HBw1.out.trans (HBo.out.mono (by omega))).setCell (p := ⟨w.heap.size + 1, 0, none⟩) (Nat.le_succ _) _).setCell (p := ⟨w.heap.size + 1, 1, none⟩) (Nat.le_succ _) _))⟩
          go_wp2
          rw [← hwf]
          obtain ⟨y0, y1, yl⟩ := blk2 HKf.out
          obtain ⟨z1, z2, z3⟩ := four_autE (E := fun b => b < w.heap.size) HFf.out (fun b h => .inl (by have h' : b < w.heap.size := h; show b < _; omega)) (fun b h => by have h' : b < w.heap.size := h; omega)
          refine bodyPost_ret (v := .agg #[.slice AN i cN, .slice AM i cM]) ?_ rfl ⟨AN, AM, cN, cM, nx', mk', by rw [z2, z3], z1, HBf.out⟩
          simp [results, Try.results54, go_sem, y0, y1]
    · have CD := Lib.hid (divide29_any A A' Ab c c' cb n N nx mk blk wr HAr.out HU.out HRB.out HBO.out.1 hn hN)
      go_wp2_with fail
      refine CD.out.mono ?_
      rintro e w4 ⟨A4, c4, out, rfl, HO4, HD4, HB4⟩
      obtain ⟨r1, r2, r3⟩ := ow_row HO4.out
      have CE := Lib.hid (equal31_v A4 Ab c4 cb w4.heap.size N N out blk w4 r1 (HRB.out.below HB4.out).lt HD4.out.1 HBO.out.1 (by simp only [maxLen]; omega) (by simp only [maxLen]; omega) (decide (out = blk)) rfl)
      have HR4 := Lib.hid r1
      clear r1
      go_wp2_with fail
      refine CE.out.mono ?_
      rintro e w5 ⟨rfl, hb5⟩
      have HR5 := Lib.hid (HR4.out.below hb5).lt
      have HB5 : Hid (Below w1.heap.size w1 w5) := Lib.hid ((HB.out.trans (HB4.out.mono hbs)).trans (hb5.mono (Nat.le_trans hbs HB4.out.size)))
      have HG := Lib.hid (HD4.out.gap HBO.out)
      clear hb5
      by_cases heq : out = blk
      · have d1 : decide (out = blk) = true := decide_eq_true heq
        have HEQ := Lib.hid heq
        rw [d1]
        clear heq d1
        go_wp2
        go_roundg (gapF 0 out)
        case measure =>
          have := HGK.out
          have := HG.out.1
          simp only [if_true] at *
          omega
        case rel => exact ⟨out, A4, c4, false, by simp, rfl, rfl, HR5, Lib.hid HD4.out.bok, HB5⟩
      · have d1 : decide (out = blk) = false := decide_eq_false heq
        have HEQ := Lib.hid heq
        rw [d1]
        clear heq d1
        go_wp2
        go_roundg (gapF 0 out + 1)
        case measure =>
          have := HGK.out
          have := HG.out.2 HEQ.out
          simp only [if_true] at *
          omega
        case rel => exact ⟨out, A4, c4, true, by simp, rfl, rfl, HR5, Lib.hid HD4.out.bok, HB5⟩
end Go.Proofs.Ytkoojoogddndnaa
