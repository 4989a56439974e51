/-
  ref29.build: the automaton of patterns.
  ref29.alike, divide.
-/
import Derived.Test.YtkoojoogddndnaaPg1
import Derived.Test.YtkoojoogddndnaaPd0
import Derived.Test.YtkoojoogddndnaaTrl
namespace Go.Proofs.Ytkoojoogddndnaa
open Go.RowKit Go.UtYtkoojoogddndnaa
theorem st_info : (Try.prog.info? 97).map (fun i => (i.zero, i.size, i.bytes)) = some (some (.slice none 0 0), 1, 24) := by kernel_rfl
theorem is_info : (Try.prog.info? 23).map (fun i => (i.zero, i.size, i.bytes)) = some (some (.slice none 0 0), 1, 24) := by kernel_rfl
def EG2 (G : Nat → Prop) (ga : Nat) : Nat → Prop := fun b => G b ∨ b = ga
theorem OkSt.small {ps : List Pat} {s : List (List (List Pat))} {np : Nat} (h : OkSt ps s) (hp : ∀ p ∈ ps, nodes p ≤ 12) (hn : ps.length = np) : SmSt np s := by
  refine ⟨by rw [h.1, hn], fun S hS => ?_⟩
  obtain ⟨i, hi, e⟩ := List.getElem_of_mem hS
  have hi' : i < ps.length := by rw [← h.1]; exact hi
  obtain ⟨h1, h2⟩ := h.2 i ps[i] S (List.getElem?_eq_getElem hi') (by rw [List.getElem?_eq_getElem hi, e])
  have h3 := nodup_len h1 h2
  have h4 := univ_len ps[i]
  have h5 := hp ps[i] (List.getElem_mem hi')
  omega
/-- an automaton over n classes, with at most b states and at most p marks a state -/
def OkAut (n b p : Nat) (nx mk : List (List Int)) : Prop := nx.length = mk.length ∧ 1 ≤ nx.length ∧ nx.length ≤ b ∧ (∀ r ∈ nx, r.length = n ∧ ∀ y ∈ r, 0 ≤ y ∧ y < nx.length) ∧ ∀ r ∈ mk, r.length ≤ p
set_option maxRecDepth 100000 in
set_option maxHeartbeats 4000000 in
theorem build29_any (E : Nat → Prop) (ps : List Pat) (Ap : Option Addr) (cp np n m : Nat) (w : World) (hE : ∀ b, E b → b < w.heap.size) (hP : PsAt (era w E) w.heap.size Ap cp ps) (hpn : ps.length = np) (hpb : ∀ p ∈ ps, nodes p ≤ 12) (hn6 : np ≤ 6) (hn60 : n ≤ 60) :
    Calls Try.prog 53 #[.slice Ap np cp, .int .i64 (n : Int), .int .i64 (m : Int), .int .i64 1000] w fun e w' => ∃ (A A' : Option Addr) (c c' : Nat) (nx mk : List (List Int)) (v : Bool), e = .returned (.tuple #[.agg #[.slice A nx.length c, .slice A' mk.length c'], .bool v]) ∧ AutAt (era w' E) w'.heap.size A c A' c' nx mk ∧ Below w.heap.size w w' ∧ (v = true → OkAut n (1000 + n) np nx mk) := by
  obtain ⟨i0, hi0, hz0, hz1, hz2⟩ := info_parts set_info
  obtain ⟨i1, hi1, hy0, hy1, hy2⟩ := info_parts st_info
  obtain ⟨i2, hi2, hx0, hx1, hx2⟩ := info_parts is_info
  obtain ⟨i3, hi3, hw0, hw1, hw2⟩ := info_parts in_info31
  have HPN := Lib.hid hpn
  have HPB := Lib.hid hpb
  obtain ⟨w1, hw1', HB1, HK1⟩ := boxV w 26 #[.slice none 0 0, .slice none 0 0]
  have HP := Lib.hid (hP.era_keep (w' := w1) (fun b hb' _ => HB1.out.block b hb') (fun _ _ h => h))
  have hw1s : w.heap.size < w1.heap.size := HK1.out.lt
  obtain ⟨G, hG⟩ : ∃ G : Nat → Prop, G = fun b => E b ∨ b = w.heap.size := ⟨_, rfl⟩
  have HG1 : Hid (∀ b, G b → b < w1.heap.size) := Lib.hid (fun b hb => by
    rw [hG] at hb
    rcases hb with hb | hb
    · have := hE b hb
      omega
    · omega)
  have HGE : Hid (∀ b, b < w.heap.size → G b → E b) := Lib.hid (fun b hb' hb => by
    rw [hG] at hb
    rcases hb with hb | hb
    · exact hb
    · omega)
  have HGg : Hid (G w.heap.size) := Lib.hid (by rw [hG]; exact .inr rfl)
  have HEG : Hid (∀ b, E b → G b ∧ b < w1.heap.size) := Lib.hid (fun b hb => ⟨by rw [hG]; exact .inl hb, by have := hE b hb; omega⟩)
  clear hP hpn hpb hG hE
  go_enter Try.func53, Try.ntmps53
  go_upto_region 1 with fail
  rw [← hw1']
  clear hw1'
  go_wp2
  go_loopw [10, 11] (fun ov iv wr => ∃ (j c' : Nat) (A' : Option Addr) (out : List (List (List Pat))), j ≤ np ∧ iv = .int .i64 (j : Int) ∧ ov = .slice A' j c' ∧ Hid (OwnOf G SetV 98 wr w1.heap.size A' c' j out) ∧ Hid (OkSt (ps.take j) out) ∧ Hid (Below w1.heap.size w1 wr)) (fun _ i _ => np - (intOf i).toNat)
  case atStart => exact ⟨0, 0, none, [], by omega, rfl, rfl, OwnOf.nil, ⟨rfl, fun i p S h => by simp at h⟩, Below.refl _ _⟩
  case round =>
    obtain ⟨j, c', A', out, hj, rfl, rfl, HOO, HOK, HB⟩ := hrel
    have hbs := HB.out.size
    by_cases hjn : j < np
    · have HEX : Hid (∀ b, OwnX G A' b → b < wr.heap.size) := Lib.hid (fun b hb => by
        rcases hb with hb | hb
        · have := HG1.out b hb
          omega
        · exact (HOO.out.lt b hb).1)
      have HPr : Hid (PsAt (era wr (OwnX G A')) w.heap.size Ap cp ps) := Lib.hid (HP.out.era_keep (fun b hb' _ => HB.out.block b (by omega)) (fun b hb' h => by
        rcases h with h | h
        · exact HGE.out b hb' h
        · have := (HOO.out.lt b h).2
          omega))
      obtain ⟨b4, o4, p4, B1, e1, B2, e2, hA4, hb4, hp4, q0', q1', q2', g1, g2, g3⟩ := HPr.out.at_ (k := j) (by rw [HPN.out]; exact hjn)
      subst hA4
      have q0 := (era_some q0').1
      have q1 := (era_some q1').1
      have q2 := (era_some q2').1
      have hb4k : b4 < wr.heap.size := by omega
      have HPV : Hid (PvAt (era wr (OwnX G A')) wr.heap.size p4 B1 e1 B2 e2) := Lib.hid ⟨g1, g2.more (by omega), g3.more (by omega)⟩
      obtain ⟨pk, hpk⟩ : ∃ z, p4.kind = z := ⟨_, rfl⟩
      obtain ⟨pn, hpn⟩ : ∃ z, p4.cls.length = z := ⟨_, rfl⟩
      obtain ⟨pz, hpz⟩ : ∃ z, p4.subs.length = z := ⟨_, rfl⟩
      obtain ⟨u1, hu1, HU1, HKu1⟩ := boxV wr 77 #[.int .i64 pk, .slice B1 pn e1, .slice B2 pz e2]
      have HF1 := Lib.hid (ps_one (u := u1) HEX.out HPV.out (by rw [hpk, hpn, hpz]; exact hu1))
      have hu1s : u1.heap.size = wr.heap.size + 1 := by rw [hu1]; simp
      obtain ⟨u2, hu2, HU2, HKu2⟩ := boxV u1 75 #[.slice (some ⟨wr.heap.size, 0, none⟩) 1 1]
      have HF2 : Hid (SetV (era u2 (OwnX G A')) u2.heap.size (.slice (some ⟨wr.heap.size + 1, 0, none⟩) 1 1) [[p4]]) := Lib.hid (by
        have := lit_one PsV.keeps (fun b hb => Nat.lt_of_lt_of_le (HEX.out b hb) HU1.out.size) ⟨_, _, rfl, HF1.out⟩ hu2
        rw [hu1s] at this
        exact this)
      have hu2s : u2.heap.size = wr.heap.size + 2 := by rw [hu2]; simp [hu1s]
      obtain ⟨u3, hu3, HU3, HKu3⟩ := boxV u2 98 #[.slice (some ⟨wr.heap.size + 1, 0, none⟩) 1 1]
      have HF3 := Lib.hid (SetV.keeps.eraGrow HF2.out HU3.out)
      have HUr : Hid (Below wr.heap.size wr u3) := Lib.hid ((HU1.out.trans (HU2.out.mono HU1.out.size)).trans (HU3.out.mono (by omega)))
      have HO3 := Lib.hid (HOO.out.after SetV.keeps HUr.out)
      have HL3 : Hid (Row u3 (u2.heap.size + 1) (some ⟨wr.heap.size + 2, 0, none⟩) [.slice (some ⟨wr.heap.size + 1, 0, none⟩) 1 1]) := Lib.hid (by
        rw [hu3, ← hu2s]
        exact row_lit u2 _ _)
      have hB3 : w1.heap.size ≤ u3.heap.size := Nat.le_trans hbs HUr.out.size
      rw [hpk] at q0
      rw [hpn] at q1
      rw [hpz] at q2
      clear q0' q1' q2' g1 g2 g3 hpk hpn hpz hu1s hu2s
      go_wp2_with (first
        | (at_builtin
           rw [← hu1, ← hu2, ← hu3]
           refine wpList_push u3 SetV.keeps rfl (.tmp 25) (.tmp 32) 97 rfl G w1.heap.size 98 i0 _ 24 Try.underlying97 hi0 hz0 hz1 hz2 rfl A' c' j out rfl HO3.out _ _ 1 _ [[p4]] rfl HL3.out rfl HF3.out (by simp only [maxLen]; omega) (by omega) hB3 ?_
           intro A8 c8 w8 HO8 HK8 HG8
           clear hu1 hu2 hu3))
      have HB8 : Hid (Below w1.heap.size w1 w8) := Lib.hid ((HB.out.trans (HUr.out.mono hbs)).trans HK8.out.1)
      have HOK8 := Lib.hid (OkSt.snoc HOK.out hp4.out (S := [[p4]]) (by simp) (fun r hr => by simp at hr; subst hr; exact List.mem_cons_self))
      go_roundw
      case rel => exact ⟨j + 1, c8, A8, out ++ [[[p4]]], by omega, by go_num, rfl, HO8, HOK8, HB8⟩
      case measure => simp [intOf] <;> omega
    · obtain rfl : j = np := by omega
      have HOKp : Hid (OkSt ps out) := Lib.hid (by
        have := HOK.out
        rwa [List.take_of_length_le (by rw [HPN.out]; omega)] at this)
      have HSB := Lib.hid (HOO.out.slE SetV.keeps (E := G) HG1.out)
      have HPe := Lib.hid (HP.out.era_keep (w' := wr) (E' := G) (fun b hb' _ => HB.out.block b (by omega)) (fun b hb' h => HGE.out b hb' h))
      have CST := Lib.hid (step29_any G ps out (.slice A' j c') Ap cp j m wr (fun b h => by have := HG1.out b h; omega) (HPe.out.more (by omega)) HPN.out HPB.out hn6 HSB.out HOKp.out)
      go_wp2_with fail
      refine CST.out.mono ?_
      rintro e w2 ⟨v2, s2, rfl, hS2, hO2, hb2⟩
      obtain ⟨As, cs, rfl, _, _⟩ := hS2.len
      have HS2 := Lib.hid hS2
      have HO2 := Lib.hid hO2
      have HB2 := Lib.hid (HB.out.trans (hb2.mono hbs))
      rw [show s2.length = j by rw [HO2.out.1, HPN.out]] at HS2 ⊢
      obtain ⟨w3, hw3, HB3, HK3⟩ := boxV w2 97 #[.slice As j cs]
      have hw3s : w3.heap.size = w2.heap.size + 1 := by rw [hw3]; simp
      obtain ⟨w4, hw4, HB4, HK4⟩ := boxV w3 26 #[.slice none 0 0, .slice none 0 0]
      rw [hw3s] at HK4
      have hbs2 := HB2.out.size
      have HF4 := Lib.hid (four_lit StV.keeps IntsV.keeps IntsV.keeps IntV.keeps (t2 := 23) (t3 := 23) (t4 := 3) hbs2 (fun b h => by have := HG1.out b h; omega) HS2.out hw3 hw4)
      have HBw4 : Hid (Below w1.heap.size w1 w4) := Lib.hid ((HB2.out.trans (HB3.out.mono hbs2)).trans (HB4.out.mono (by omega)))
      clear hS2 hO2 hb2 HOO HOK HSB HPe hw3s
      obtain ⟨ga, hga⟩ : ∃ z, z = w2.heap.size + 1 := ⟨_, rfl⟩
      rw [← hga] at HK4 HF4
      change Hid (Four (EG2 G ga) _ _ _ _ _) at HF4
      have hgw : w1.heap.size < ga := by omega
      go_wp2
      rw [← hga, ← hw3, ← hw4]
      clear hw3 hw4 hga
      go_loopw [12, 14] (fun lv iv wr => ∃ (i nL cL cN cM : Nat) (AL AN AM : Option Addr) (ls : List (List (List (List Pat)))) (nx mk : List (List Int)), i ≤ nL ∧ nL ≤ 1000 + n ∧ 1 ≤ nL ∧ iv = .int .i64 (i : Int) ∧ lv = .slice AL nL cL ∧ Hid (Four (EG2 G ga) wr ⟨StV, 97, w1.heap.size, AL, cL, nL, ls⟩ ⟨IntsV, 23, w1.heap.size, AN, cN, i, nx⟩ ⟨IntsV, 23, w1.heap.size, AM, cM, i, mk⟩ ⟨IntV, 3, w1.heap.size, none, 0, 0, []⟩) ∧ Hid (Blk wr ga 26 #[.slice AN i cN, .slice AM i cM]) ∧ Hid (∀ x ∈ ls, OkSt ps x) ∧ Hid (∀ r ∈ nx, r.length = n ∧ ∀ y ∈ r, 0 ≤ y ∧ y < (nL : Int)) ∧ Hid (∀ r ∈ mk, r.length ≤ j) ∧ Hid (Below w1.heap.size w1 wr)) (fun _ i _ => 1001 + n - (intOf i).toNat)
      case atStart => exact ⟨0, 1, 1, 0, 0, _, none, none, _, [], [], by omega, by omega, by omega, rfl, rfl, HF4, HK4, Lib.hid (by intro x hx; simp at hx; subst hx; exact HO2.out), Lib.hid (by simp), Lib.hid (by simp), HBw4⟩
      case round =>
        obtain ⟨i, nL, cL, cN, cM, AL, AN, AM, ls, nx, mk, hi, hnL, h1L, rfl, rfl, HF, HK, HLS, HNX, HMK, HB'⟩ := hrel
        obtain ⟨wo, hwo⟩ : ∃ z, z = wr := ⟨_, rfl⟩
        subst hwo
        have hbo := HB'.out.size
        have p0 := HK.out.cell 0
        have p1 := HK.out.cell 1
        have pl := HK.out.lt
        have HKr : Hid (Blk wo w.heap.size 26 #[.slice none 0 0, .slice none 0 0]) := Lib.hid (HK1.out.below HB'.out hw1s)
        have r0 := HKr.out.cell 0
        have r1 := HKr.out.cell 1
        have rl := HKr.out.lt
        have f0 := HKr.out.free 0
        have f1 := HKr.out.free 1
        by_cases hin : i < nL
        · by_cases h1000 : 1000 < nL
          · obtain ⟨wf, hwf, HFf, HKf, HBf⟩ : ∃ z, z = (wo.setCell ⟨w.heap.size, 0, none⟩ (.slice AN i cN)).setCell ⟨w.heap.size, 1, none⟩ (.slice AM i cM) ∧ Hid (Four (EG2 G ga) z ⟨StV, 97, w1.heap.size, AL, cL, nL, ls⟩ ⟨IntsV, 23, w1.heap.size, AN, cN, i, nx⟩ ⟨IntsV, 23, w1.heap.size, AM, cM, i, mk⟩ ⟨IntV, 3, w1.heap.size, none, 0, 0, []⟩) ∧ Hid (Blk z w.heap.size 26 #[.slice AN i cN, .slice AM i cM]) ∧ Hid (Below w.heap.size w z) :=
              ⟨_, rfl, Lib.hid (HF.out.store (fun b hb => set2_keep.1 b (fun e => hb (.inl (by rw [e]; exact HGg.out)))) set2_keep.2), Lib.hid ((HKr.out.set_ 0 _).set_ 1 _), Lib.hid ((((HB1.out.trans (HB'.out.mono (by omega))).setCell (p := ⟨w.heap.size, 0, none⟩) (Nat.le_refl _) _).setCell (p := ⟨w.heap.size, 1, none⟩) (Nat.le_refl _) _))⟩
            go_wp2
            rw [← hwf]
            obtain ⟨y0, y1, yl⟩ := blk2 HKf.out
            obtain ⟨z1, z2, z3⟩ := four_autE (E := E) HFf.out (fun b h => .inl (HEG.out b h).1) (fun b h => (HEG.out b h).2)
            refine bodyPost_ret (v := .tuple #[.agg #[.slice AN i cN, .slice AM i cM], .bool false]) ?_ rfl ⟨AN, AM, cN, cM, nx, mk, false, by rw [z2, z3], z1, HBf.out, fun h => by cases h⟩
            simp [results, Try.results53, go_sem, y0, y1]
          · have hn1 : nL ≤ 1000 := by omega
            go_wp2
            go_loopw [12, 15, 16] (fun lv xv iv wr => ∃ (k nL' cL' cX : Nat) (AL' AX : Option Addr) (ls' : List (List (List (List Pat)))) (xs : List Int), k ≤ n ∧ nL ≤ nL' ∧ nL' ≤ nL + k ∧ iv = .int .i64 (k : Int) ∧ lv = .slice AL' nL' cL' ∧ xv = .slice AX k cX ∧ Hid (Four (EG2 G ga) wr ⟨StV, 97, w1.heap.size, AL', cL', nL', ls'⟩ ⟨IntsV, 23, w1.heap.size, AN, cN, i, nx⟩ ⟨IntsV, 23, w1.heap.size, AM, cM, i, mk⟩ ⟨IntV, 3, w1.heap.size, AX, cX, k, xs⟩) ∧ Hid (Blk wr ga 26 #[.slice AN i cN, .slice AM i cM]) ∧ Hid (∀ x ∈ ls', OkSt ps x) ∧ Hid (∀ y ∈ xs, 0 ≤ y ∧ y < (nL' : Int)) ∧ Hid (Below w1.heap.size w1 wr)) (fun _ _ i _ => n - (intOf i).toNat)
            case atStart => exact ⟨0, nL, cL, 0, AL, none, ls, [], by omega, by omega, by omega, rfl, rfl, rfl, HF, HK, HLS, Lib.hid (by simp), HB'⟩
            case round =>
              obtain ⟨k, nL', cL', cX, AL', AX, ls', xs, hk, hLL, hLk, rfl, rfl, rfl, HFk, HKk, HLk, HXk, HBk⟩ := hrel
              obtain ⟨wk, hwk⟩ : ∃ z, z = wr := ⟨_, rfl⟩
              subst hwk
              have hbk := HBk.out.size
              obtain ⟨bl, ol, ul, x, hAl, hbl, hx, ql, hSx⟩ := HFk.out.o1.2.1.at_ StV.keeps (k := i) (show i < nL' by omega)
              change AL' = _ at hAl
              subst hAl
              have HOX := Lib.hid (HLk.out x (List.mem_of_getElem? hx.out))
              obtain ⟨Au, cu, rfl, _, _⟩ := hSx.len
              rw [show x.length = j by rw [HOX.out.1, HPN.out]] at ql hSx
              have HSX := Lib.hid hSx
              clear hSx
              have hil : i < nL' := by omega
              by_cases hkn : k < n
              · have HPk := Lib.hid (HP.out.era_keep (w' := wk) (E' := U4 (EG2 G ga) (some ⟨bl, ol, none⟩) AN AM AX) (fun b hb' _ => HBk.out.block b (by omega)) (fun b hb' h => by
                  rcases h with (h | h) | h | h | h | h
                  · exact HGE.out b hb' h
                  · omega
                  · have := (HFk.out.o1.lt b h).2
                    change w1.heap.size ≤ b at this
                    omega
                  · have := (HFk.out.o2.lt b h).2
                    change w1.heap.size ≤ b at this
                    omega
                  · have := (HFk.out.o3.lt b h).2
                    change w1.heap.size ≤ b at this
                    omega
                  · have := (HFk.out.o4.lt b h).2
                    change w1.heap.size ≤ b at this
                    omega))
                have CST := Lib.hid (step29_any _ ps x (.slice Au j cu) Ap cp j (k : Int) wk HFk.out.lt (HPk.out.more (by omega)) HPN.out HPB.out hn6 HSX.out HOX.out)
                go_wp2_with fail
                refine CST.out.mono ?_
                rintro e w5 ⟨v5, s5, rfl, hS5, hO5, hb5⟩
                obtain ⟨As5, cs5, rfl, _, _⟩ := hS5.len
                have HS5 := Lib.hid hS5
                have HO5 := Lib.hid hO5
                rw [show s5.length = j by rw [HO5.out.1, HPN.out]] at HS5 ⊢
                have HF5 := Lib.hid (HFk.out.after hb5)
                have HBk5 := Lib.hid hb5
                clear hS5 hO5 hb5 HPk
                have CF := Lib.hid (find29_any ls' s5 (some ⟨bl, ol, none⟩) As5 cL' cs5 nL' j w5 (HF5.out.o1.2.1.sl StV.keeps) HF5.out.o1.2.1.1 (StV.keeps.of_era HS5.out) (by omega) (by omega) (fun y hy => OkSt.small (HLk.out y hy) HPB.out HPN.out) (OkSt.small HO5.out HPB.out HPN.out))
                go_wp2_with fail
                refine CF.out.mono ?_
                rintro e w6 ⟨kf, rfl, hkf, hb6⟩
                have HF6 := Lib.hid (HF5.out.after hb6)
                have HS6 := Lib.hid (StV.keeps.eraGrow HS5.out hb6)
                have HBk6 : Hid (Below wk.heap.size wk w6) := Lib.hid (HBk5.out.trans (hb6.mono HBk5.out.size))
                have HB6 : Hid (Below w1.heap.size w1 w6) := Lib.hid (HBk.out.trans (HBk6.out.mono hbk))
                have HKb6 := Lib.hid (HKk.out.after HBk6.out)
                clear hb6
                by_cases hkl : kf = nL'
                · subst hkl
                  obtain ⟨w7, hw7, HB7, HK7⟩ := boxV w6 97 #[.slice As5 j cs5]
                  have HF7 := Lib.hid (HF6.out.after HB7.out)
                  have HV7 := Lib.hid (StV.keeps.less (StV.keeps.eraGrow HS6.out HB7.out) HF7.out.x1)
                  have HL7 : Hid (Row w7 (w6.heap.size + 1) (some ⟨w6.heap.size, 0, none⟩) [.slice As5 j cs5]) := Lib.hid (by
                    rw [hw7]
                    exact row_lit w6 _ _)
                  have HKb7 := Lib.hid (HKb6.out.after HB7.out)
                  have hB7 : w1.heap.size ≤ w7.heap.size := Nat.le_trans HB6.out.size HB7.out.size
                  go_wp2_with (first
                    | (at_builtin
                       rw [← hw7]
                       refine wpList_push w7 StV.keeps rfl (.tmp 69) (.tmp 71) 100 rfl _ w1.heap.size 97 i1 _ 24 Try.underlying100 hi1 hy0 hy1 hy2 rfl (some ⟨bl, ol, none⟩) cL' kf ls' rfl HF7.out.o1.2.1 _ _ 1 _ s5 rfl HL7.out rfl HV7.out (by simp only [maxLen]; omega) (by omega) hB7 ?_
                       intro A8 c8 w8 HO8 HK8 HG8
                       clear hw7
                       have HF8 := Lib.hid (HF7.out.push1 HO8.out HK8.out HG8.out)
                       have HK8b : Hid (Blk w8 ga 26 #[.slice AN i cN, .slice AM i cM]) := Lib.hid ((HK8.out.2 ga HKb7.out.lt (HF7.out.o1.2.2 ga (.inr rfl))).trans HKb7.out)
                       have HB8 : Hid (Below w1.heap.size w1 w8) := Lib.hid ((HB6.out.trans (HB7.out.mono HB6.out.size)).trans HK8.out.1)
                       have HL8 : Hid (∀ y ∈ ls' ++ [s5], OkSt ps y) := Lib.hid (fun y hy => by
                         rcases List.mem_append.1 hy with hy | hy
                         · exact HLk.out y hy
                         · simp at hy
                           subst hy
                           exact HO5.out)
                       obtain ⟨w9, hw9, HB9, HK9⟩ := boxV w8 3 #[.int .i64 (kf : Int)]
                       have HF9 := Lib.hid (HF8.out.after HB9.out).rot.rot.rot
                       have HL9 : Hid (Row w9 (w8.heap.size + 1) (some ⟨w8.heap.size, 0, none⟩) [.int .i64 (kf : Int)]) := Lib.hid (by
                         rw [hw9]
                         exact row_lit w8 _ _)
                       have HKb9 := Lib.hid (HK8b.out.after HB9.out)
                       have hB9 : w1.heap.size ≤ w9.heap.size := Nat.le_trans HB8.out.size HB9.out.size)
                    | (at_builtin
                       rw [← hw9]
                       refine wpList_push w9 IntV.keeps rfl (.tmp 73) (.tmp 75) 23 rfl (U4 (EG2 G ga) AX A8 AN AM) w1.heap.size 3 i3 _ 8 Try.underlying23 hi3 hw0 hw1 hw2 rfl AX cX k xs rfl HF9.out.o1.2.1 _ _ 1 _ (kf : Int) rfl HL9.out rfl rfl (by simp only [maxLen]; omega) (by omega) hB9 ?_
                       intro A10 c10 w10 HO10 HK10 HG10
                       clear hw9))
                  have HF10 := Lib.hid (HF9.out.push1 HO10.out HK10.out HG10.out).rot
                  have HKb10 : Hid (Blk w10 ga 26 #[.slice AN i cN, .slice AM i cM]) := Lib.hid ((HK10.out.2 ga HKb9.out.lt (HF9.out.o1.2.2 ga (.inr rfl))).trans HKb9.out)
                  have HB10 : Hid (Below w1.heap.size w1 w10) := Lib.hid ((HB8.out.trans (HB9.out.mono HB8.out.size)).trans HK10.out.1)
                  go_roundw
                  case rel => exact ⟨k + 1, (kf + 1), c8, c10, A8, A10, (ls' ++ [s5]), xs ++ [(kf : Int)], by omega, by omega, by omega, by go_num, rfl, rfl, HF10, HKb10, HL8, Lib.hid (by
                      intro y hy
                      rcases List.mem_append.1 hy with hy | hy
                      · have := HXk.out y hy
                        omega
                      · simp at hy
                        subst hy
                        omega), HB10⟩
                  case measure => simp [intOf] <;> omega
                · obtain ⟨w9, hw9, HB9, HK9⟩ := boxV w6 3 #[.int .i64 (kf : Int)]
                  have HF9 := Lib.hid (HF6.out.after HB9.out).rot.rot.rot
                  have HL9 : Hid (Row w9 (w6.heap.size + 1) (some ⟨w6.heap.size, 0, none⟩) [.int .i64 (kf : Int)]) := Lib.hid (by
                    rw [hw9]
                    exact row_lit w6 _ _)
                  have HKb9 := Lib.hid (HKb6.out.after HB9.out)
                  have hB9 : w1.heap.size ≤ w9.heap.size := Nat.le_trans HB6.out.size HB9.out.size
                  go_wp2_with (first
                    | (at_builtin
                       rw [← hw9]
                       refine wpList_push w9 IntV.keeps rfl (.tmp 73) (.tmp 75) 23 rfl (U4 (EG2 G ga) AX (some ⟨bl, ol, none⟩) AN AM) w1.heap.size 3 i3 _ 8 Try.underlying23 hi3 hw0 hw1 hw2 rfl AX cX k xs rfl HF9.out.o1.2.1 _ _ 1 _ (kf : Int) rfl HL9.out rfl rfl (by simp only [maxLen]; omega) (by omega) hB9 ?_
                       intro A10 c10 w10 HO10 HK10 HG10
                       clear hw9))
                  have HF10 := Lib.hid (HF9.out.push1 HO10.out HK10.out HG10.out).rot
                  have HKb10 : Hid (Blk w10 ga 26 #[.slice AN i cN, .slice AM i cM]) := Lib.hid ((HK10.out.2 ga HKb9.out.lt (HF9.out.o1.2.2 ga (.inr rfl))).trans HKb9.out)
                  have HB10 : Hid (Below w1.heap.size w1 w10) := Lib.hid ((HB6.out.trans (HB9.out.mono HB6.out.size)).trans HK10.out.1)
                  go_roundw
                  case rel => exact ⟨k + 1, nL', cL', c10, (some ⟨bl, ol, none⟩), A10, ls', xs ++ [(kf : Int)], by omega, by omega, by omega, by go_num, rfl, rfl, HF10, HKb10, HLk, Lib.hid (by
                      intro y hy
                      rcases List.mem_append.1 hy with hy | hy
                      · exact HXk.out y hy
                      · simp at hy
                        subst hy
                        omega), HB10⟩
                  case measure => simp [intOf] <;> omega
              · obtain rfl : k = n := by omega
                obtain ⟨hFd, hXd⟩ := HFk.out.drop4 w1.heap.size
                have HFd := Lib.hid hFd
                have HXd := Lib.hid hXd
                have hxl := HFk.out.o4.2.1.1
                have HXL : Hid (xs.length = k) := Lib.hid hxl
                clear hFd hXd hxl
                obtain ⟨w5, hw5, HB5, HK5⟩ := boxV wk 23 #[.slice AX k cX]
                have HF5 := Lib.hid (HFd.out.after HB5.out).rot
                have HL5 : Hid (Row w5 (wk.heap.size + 1) (some ⟨wk.heap.size, 0, none⟩) [.slice AX k cX]) := Lib.hid (by
                  rw [hw5]
                  exact row_lit wk _ _)
                have HX5 : Hid (IntsV (era w5 (OwnX (U4 (EG2 G ga) AN AM none (some ⟨bl, ol, none⟩)) AN)) w5.heap.size (.slice AX k cX) xs) := Lib.hid (IntsV.keeps.less (IntsV.keeps.eraGrow HXd.out HB5.out) (fun b h => by
                  unfold OwnX U4 at h
                  unfold U4
                  rcases h with ((h | h | h | h | h) | h)
                  · exact .inl h
                  · exact .inr (.inr (.inl h))
                  · exact .inr (.inr (.inr (.inl h)))
                  · exact absurd h own_none
                  · exact .inr (.inl h)
                  · exact .inr (.inr (.inl h))))
                have HKb5 := Lib.hid (HKk.out.after HB5.out)
                have hB5 : w1.heap.size ≤ w5.heap.size := Nat.le_trans hbk HB5.out.size
                have k0 := HKk.out.cell 0
                have k1 := HKk.out.cell 1
                have kl := HKk.out.lt
                go_wp2_with (first
                  | (at_builtin
                     rw [← hw5]
                     refine wpList_push w5 IntsV.keeps rfl (.tmp 78) (.tmp 80) 24 rfl (U4 (EG2 G ga) AN AM none (some ⟨bl, ol, none⟩)) w1.heap.size 23 i2 _ 24 Try.underlying24 hi2 hx0 hx1 hx2 rfl AN cN i nx rfl HF5.out.o1.2.1 _ _ 1 _ xs rfl HL5.out rfl HX5.out (by simp only [maxLen]; omega) (by omega) hB5 ?_
                     intro A6 c6 w6 HO6 HK6 HG6
                     clear hw5
                     have HF6 := Lib.hid (HF5.out.push1 HO6.out HK6.out HG6.out).rot.rot.rot
                     have HKb6 : Hid (Blk w6 ga 26 #[.slice AN i cN, .slice AM i cM]) := Lib.hid ((HK6.out.2 ga HKb5.out.lt (HF5.out.o1.2.2 ga (.inr rfl))).trans HKb5.out)
                     have HB6 : Hid (Below w1.heap.size w1 w6) := Lib.hid ((HBk.out.trans (HB5.out.mono hbk)).trans HK6.out.1)
                     have kk0 := HKb6.out.cell 0
                     have kk1 := HKb6.out.cell 1
                     have kkl := HKb6.out.lt
                     have kf0 := HKb6.out.free 0
                     obtain ⟨w7, hw7, HF7, HK7, HB7⟩ : ∃ z, z = w6.setCell ⟨ga, 0, none⟩ (.slice A6 (i + 1) c6) ∧ Hid (Four (EG2 G ga) z ⟨StV, 97, w1.heap.size, some ⟨bl, ol, none⟩, cL', nL', ls'⟩ ⟨IntsV, 23, w1.heap.size, A6, c6, i + 1, nx ++ [xs]⟩ ⟨IntsV, 23, w1.heap.size, AM, cM, i, mk⟩ ⟨IntV, 3, w1.heap.size, none, 0, 0, []⟩) ∧ Hid (Blk z ga 26 #[.slice A6 (i + 1) c6, .slice AM i cM]) ∧ Hid (Below w1.heap.size w1 z) :=
                       ⟨_, rfl, Lib.hid (HF6.out.store (fun b hb => set1_keep.1 b (fun e => hb (.inr e))) set1_keep.2), Lib.hid (HKb6.out.set_ 0 _), Lib.hid (HB6.out.setCell (p := ⟨ga, 0, none⟩) (Nat.le_of_lt hgw) _)⟩))
                rw [← hw7]
                clear hw7 k0 k1 kl kk0 kk1 kkl kf0
                obtain ⟨b8, o8, u8, x8, hA8, hb8, hx8, q8, hS8⟩ := HF7.out.o1.2.1.at_ StV.keeps (k := i) hil
                change some _ = _ at hA8
                injection hA8 with hA8
                injection hA8 with hA8 hA9
                subst hA8 hA9
                have HO8 := Lib.hid (HLk.out x8 (List.mem_of_getElem? hx8.out))
                obtain ⟨A9, c9, rfl, _, _⟩ := hS8.len
                have hx8l : x8.length = j := by rw [HO8.out.1, HPN.out]
                rw [hx8l] at q8 hS8
                have CM := Lib.hid (fun (u : World) (hu : Below w7.heap.size w7 u) => marks29_any x8 A9 c9 j u (StV.keeps.grow (StV.keeps.of_era hS8) hu) hx8l (by omega) (OkSt.small HO8.out HPB.out HPN.out).2)
                have hbl7 : bl < w7.heap.size := hb8
                clear hS8 hx8l
                refine wp_region_treeL 10 (fun w' => Blk w' ga 26 #[.slice A6 (i + 1) c6, .slice AM i cM] ∧ w'.cell? ⟨bl, ol + i, none⟩ = some (.slice A9 j c9)) (.float 0 (.float 1 (.float 2 (.float 3 (.float 4 (.float 5 (.one 6 (.one 7 (.one 8 (.float 9 (.one 10 .done))))))))))) (by kernel_rfl) (by kernel_rfl) (fun _ _ d _ _ h => by cases d <;> exact h) ⟨HK7.out.drew, q8⟩ ?_
                repeat (first
                  | (refine wpTrL_fskip (by simp only [List.getElem?_toArray, List.getElem?_cons_zero, List.getElem?_cons_succ]; rfl) (by rfl) ?_
                     simp only [Act.put, List.setIfInBounds_toArray, List.set_cons_zero, List.set_cons_succ])
                  | (refine wpTrL_float (v := ?_) (by simp only [List.getElem?_toArray, List.getElem?_cons_zero, List.getElem?_cons_succ]; rfl) (by rfl) (fun w' hS => ?_) ?_
                     rotate_left
                     ((obtain ⟨hSK, e1'⟩ := hS; have s0' := hSK.cell 0; have s1' := hSK.cell 1; have sl' := hSK.lt); go_simp; first | done | rfl)
                     simp only [Act.put, List.setIfInBounds_toArray, List.set_cons_zero, List.set_cons_succ]))
                refine wpTrL_one ?_
                refine stepTrL_K (by simp only [List.getElem?_toArray, List.getElem?_cons_zero, List.getElem?_cons_succ]; rfl) (by rfl) (fun K hK => ?_)
                go_simp
                refine (CM.out w7.drew (Below.refl _ _).drew).mono ?_
                rintro e w8 ⟨A8, c8, n8, out8, rfl, hn8, HOW8, HBW8⟩
                have HBL8 : Hid (Below w7.heap.size w7 w8) := Lib.hid ((Below.refl _ _).drew.trans HBW8.out)
                have HXX8 : Hid (IntsV (era w8 (U4 (EG2 G ga) (some ⟨bl, ol, none⟩) A6 AM none)) w8.heap.size (.slice A8 n8 c8) out8) := Lib.hid (IntsV.of_own HOW8.out HF7.out.lt)
                have hol8 : Hid (out8.length = n8) := Lib.hid (by have := HOW8.out.1; rw [ints_len] at this; omega)
                have qw8 := (HBL8.out.cell (p := ⟨bl, ol + i, none⟩) hbl7).trans q8
                have HKK8 := Lib.hid (HK7.out.after HBL8.out)
                refine hK.out _ _ ⟨HKK8.out, qw8⟩ ?_
                clear hK K
                try simp only [Act.put, List.setIfInBounds_toArray, List.set_cons_zero, List.set_cons_succ]
                refine wpTrL_one ?_
                refine stepTrL_K (by simp only [List.getElem?_toArray, List.getElem?_cons_zero, List.getElem?_cons_succ]; rfl) (by rfl) (fun K hK => ?_)
                go_simp
                obtain ⟨w9, hw9, HB9, HK9⟩ := boxV w8 23 #[.slice A8 n8 c8]
                have HL9 : Hid (Row w9 (w8.heap.size + 1) (some ⟨w8.heap.size, 0, none⟩) [.slice A8 n8 c8]) := Lib.hid (by
                  rw [hw9]
                  exact row_lit w8 _ _)
                rw [← hw9]
                have hbl8 : bl < w8.heap.size := Nat.lt_of_lt_of_le hbl7 HBL8.out.size
                have qw9 := (HB9.out.cell (p := ⟨bl, ol + i, none⟩) hbl8).trans qw8
                have HKK9 := Lib.hid (HKK8.out.after HB9.out)
                have HBL9 : Hid (Below w7.heap.size w7 w9) := Lib.hid (HBL8.out.trans (HB9.out.mono HBL8.out.size))
                have HF9 := Lib.hid (HF7.out.after HBL9.out).rot.rot
                have hbl9 : bl < w9.heap.size := Nat.lt_of_lt_of_le hbl8 HB9.out.size
                have hB9 : w1.heap.size ≤ w9.heap.size := Nat.le_trans HB7.out.size HBL9.out.size
                have HXX9 : Hid (IntsV (era w9 (OwnX (U4 (EG2 G ga) AM none (some ⟨bl, ol, none⟩) A6) AM)) w9.heap.size (.slice A8 n8 c8) out8) := Lib.hid (IntsV.keeps.less (IntsV.keeps.eraGrow HXX8.out HB9.out) (fun b h => by
                  unfold OwnX U4 at h
                  unfold U4
                  rcases h with ((h | h | h | h | h) | h)
                  · exact .inl h
                  · exact .inr (.inr (.inr (.inl h)))
                  · exact absurd h own_none
                  · exact .inr (.inl h)
                  · exact .inr (.inr (.inl h))
                  · exact .inr (.inr (.inr (.inl h)))))
                refine hK.out _ _ ⟨HKK9.out, qw9⟩ ?_
                clear hK K hw9
                try simp only [Act.put, List.setIfInBounds_toArray, List.set_cons_zero, List.set_cons_succ]
                refine wpTrL_one ?_
                refine stepTrL_K (by simp only [List.getElem?_toArray, List.getElem?_cons_zero, List.getElem?_cons_succ]; rfl) (by rfl) (fun K hK => ?_)
                refine wp_push w9 IntsV.keeps (.tmp 84) (.tmp 90) 24 rfl (U4 (EG2 G ga) AM none (some ⟨bl, ol, none⟩) A6) w1.heap.size 23 i2 _ 24 Try.underlying24 hi2 hx0 hx1 hx2 rfl AM cM i mk rfl HF9.out.o1.2.1 _ _ 1 _ out8 rfl HL9.out rfl HXX9.out (by simp only [maxLen]; omega) (by omega) hB9 ?_
                intro A10 c10 w10 HO10 HK10 HG10
                have HF10 := Lib.hid (HF9.out.push1 HO10.out HK10.out HG10.out).rot.rot
                have HKK10 : Hid (Blk w10 ga 26 #[.slice A6 (i + 1) c6, .slice AM i cM]) := Lib.hid ((HK10.out.2 ga HKK9.out.lt (HF9.out.o1.2.2 ga (.inr rfl))).trans HKK9.out)
                have qw10 := (World.cell?_of_block (w := w9) (w' := w10) (a := ⟨bl, ol + i, none⟩) (HK10.out.2 bl hbl9 (fun h => HF9.out.a13 bl h rfl))).trans qw9
                have HB10 : Hid (Below w1.heap.size w1 w10) := Lib.hid ((HB7.out.trans (HBL9.out.mono HB7.out.size)).trans HK10.out.1)
                refine hK.out _ _ ⟨HKK10.out, qw10⟩ ?_
                clear hK K
                try simp only [Act.put, List.setIfInBounds_toArray, List.set_cons_zero, List.set_cons_succ]
                repeat (first
                  | (refine wpTrL_fskip (by simp only [List.getElem?_toArray, List.getElem?_cons_zero, List.getElem?_cons_succ]; rfl) (by rfl) ?_
                     simp only [Act.put, List.setIfInBounds_toArray, List.set_cons_zero, List.set_cons_succ])
                  | (refine wpTrL_float (v := ?_) (by simp only [List.getElem?_toArray, List.getElem?_cons_zero, List.getElem?_cons_succ]; rfl) (by rfl) (fun w' hS => ?_) ?_
                     rotate_left
                     ((skip); go_simp; first | done | rfl)
                     simp only [Act.put, List.setIfInBounds_toArray, List.set_cons_zero, List.set_cons_succ]))
                refine wpTrL_one ?_
                refine stepTrL_last (by simp only [List.getElem?_toArray, List.getElem?_cons_zero, List.getElem?_cons_succ]; rfl) (by rfl) (fun K hK => ?_)
                have kk0 := HKK10.out.cell 0
                have kk1 := HKK10.out.cell 1
                have kkl := HKK10.out.lt
                have kf1 := HKK10.out.free 1
                obtain ⟨w11, hw11, HF11, HK11, HB11⟩ : ∃ z, z = w10.setCell ⟨ga, 1, none⟩ (.slice A10 (i + 1) c10) ∧ Hid (Four (EG2 G ga) z ⟨StV, 97, w1.heap.size, some ⟨bl, ol, none⟩, cL', nL', ls'⟩ ⟨IntsV, 23, w1.heap.size, A6, c6, i + 1, nx ++ [xs]⟩ ⟨IntsV, 23, w1.heap.size, A10, c10, i + 1, mk ++ [out8]⟩ ⟨IntV, 3, w1.heap.size, none, 0, 0, []⟩) ∧ Hid (Blk z ga 26 #[.slice A6 (i + 1) c6, .slice A10 (i + 1) c10]) ∧ Hid (Below w1.heap.size w1 z) :=
                  ⟨_, rfl, Lib.hid (HF10.out.store (fun b hb => set1_keep.1 b (fun e => hb (.inr e))) set1_keep.2), Lib.hid (HKK10.out.set_ 1 _), Lib.hid (HB10.out.setCell (p := ⟨ga, 1, none⟩) (Nat.le_of_lt hgw) _)⟩
                go_simp
                rw [← hw11]
                refine hK.out _ _ ?_
                clear hK K hw11 kk0 kk1 kkl kf1
                try simp only [Act.put, List.setIfInBounds_toArray, List.set_cons_zero, List.set_cons_succ]
                refine wpTrL_done ?_
                have HNX' : Hid (∀ r ∈ nx ++ [xs], r.length = k ∧ ∀ y ∈ r, 0 ≤ y ∧ y < (nL' : Int)) := Lib.hid (fun r hr => by
                  rcases List.mem_append.1 hr with hr | hr
                  · refine ⟨(HNX.out r hr).1, fun y hy => ?_⟩
                    have := (HNX.out r hr).2 y hy
                    omega
                  · simp at hr
                    subst hr
                    exact ⟨HXL.out, HXk.out⟩)
                have HMK' : Hid (∀ r ∈ mk ++ [out8], r.length ≤ j) := Lib.hid (fun r hr => by
                  rcases List.mem_append.1 hr with hr | hr
                  · exact HMK.out r hr
                  · simp at hr
                    subst hr
                    rw [hol8.out]
                    exact hn8)
                go_wp2
                go_roundw
                case rel => exact ⟨i + 1, nL', cL', c6, c10, some ⟨bl, ol, none⟩, A6, A10, ls', nx ++ [xs], mk ++ [out8], by omega, by omega, by omega, by go_num, rfl, HF11, HK11, HLk, HNX', HMK', HB11⟩
                case measure => simp [intOf] <;> omega
        · obtain rfl : i = nL := by omega
          obtain ⟨wf, hwf, HFf, HKf, HBf⟩ : ∃ z, z = (wo.setCell ⟨w.heap.size, 0, none⟩ (.slice AN i cN)).setCell ⟨w.heap.size, 1, none⟩ (.slice AM i cM) ∧ Hid (Four (EG2 G ga) z ⟨StV, 97, w1.heap.size, AL, cL, i, ls⟩ ⟨IntsV, 23, w1.heap.size, AN, cN, i, nx⟩ ⟨IntsV, 23, w1.heap.size, AM, cM, i, mk⟩ ⟨IntV, 3, w1.heap.size, none, 0, 0, []⟩) ∧ Hid (Blk z w.heap.size 26 #[.slice AN i cN, .slice AM i cM]) ∧ Hid (Below w.heap.size w z) :=
            ⟨_, rfl, Lib.hid (HF.out.store (fun b hb => set2_keep.1 b (fun e => hb (.inl (by rw [e]; exact HGg.out)))) set2_keep.2), Lib.hid ((HKr.out.set_ 0 _).set_ 1 _), Lib.hid ((((HB1.out.trans (HB'.out.mono (by omega))).setCell (p := ⟨w.heap.size, 0, none⟩) (Nat.le_refl _) _).setCell (p := ⟨w.heap.size, 1, none⟩) (Nat.le_refl _) _))⟩
          go_wp2
          rw [← hwf]
          obtain ⟨y0, y1, yl⟩ := blk2 HKf.out
          obtain ⟨z1, z2, z3⟩ := four_autE (E := E) HFf.out (fun b h => .inl (HEG.out b h).1) (fun b h => (HEG.out b h).2)
          refine bodyPost_ret (v := .tuple #[.agg #[.slice AN i cN, .slice AM i cM], .bool true]) ?_ rfl ⟨AN, AM, cN, cM, nx, mk, true, by rw [z2, z3], z1, HBf.out, fun _ => ⟨by rw [z2, z3], by omega, by omega, fun r hr => by rw [z2]; exact HNX.out r hr, HMK.out⟩⟩
          simp [results, Try.results53, go_sem, y0, y1]
end Go.Proofs.Ytkoojoogddndnaa
namespace Go.UtYtkoojoogddndnaa
open Go.RowKit
theorem ow_lower {w : World} {base base' e size n : Nat} {v : Value} {xs : List Value} (h : w.ownsRow base e size v n xs) (hb : base' ≤ base) : w.ownsRow base' e size v n xs := by
  refine ⟨h.1, ?_⟩
  rcases h.2 with h' | ⟨g, cap, cur, hv, hg, h'⟩
  · exact .inl h'
  · exact .inr ⟨g, cap, cur, hv, Nat.le_trans hb hg, h'⟩
def RetImp (P : Prop) (w : World) (e : Ending) (w' : World) : Prop := ∃ v : Bool, e = .returned (.bool v) ∧ (v = true → P) ∧ Below w.heap.size w w'
/-- an automaton of N states over n classes -/
structure Aut (n N : Nat) (nx mk : List (List Int)) : Prop where
  len : nx.length = N
  lenM : mk.length = N
  row : ∀ r ∈ nx, r.length = n ∧ ∀ y ∈ r, 0 ≤ y ∧ y < (N : Int)
  mkl : ∀ r ∈ mk, r.length ≤ 1000
theorem Aut.at_ {n N : Nat} {nx mk : List (List Int)} (h : Aut n N nx mk) {w : World} {B : Nat} {A : Option Addr} (hr : Rows2 w B A nx) {i c : Nat} (hi : i < N) (hc : c < n) :
    ∃ b o b' o' c' y, A = some ⟨b, o, none⟩ ∧ b < B ∧ w.cell? ⟨b, o + i, none⟩ = some (.slice (some ⟨b', o', none⟩) n c') ∧ b' < B ∧ w.cell? ⟨b', o' + c, none⟩ = some (.int .i64 ((y : Nat) : Int)) ∧ y < N := by
  obtain ⟨b, o, A', c', xs, e, hb, hx, hc1, h1, h2, h3⟩ := hr.at_ (k := i) (by rw [h.len]; exact hi)
  obtain ⟨hl, hy⟩ := h.row xs (List.mem_of_getElem? hx.out)
  obtain ⟨b', o', y, e', hb', hy', hc2⟩ := h3.at_int (k := c) (by rw [hl]; exact hc)
  subst e'
  have := hy y (List.mem_of_getElem? hy'.out)
  rw [hl] at hc1
  refine ⟨b, o, b', o', c', y.toNat, e, hb, hc1, hb', ?_, by omega⟩
  rw [Int.toNat_of_nonneg this.1]
  exact hc2
end Go.UtYtkoojoogddndnaa
namespace Go.Proofs.Ytkoojoogddndnaa
open Go.RowKit Go.UtYtkoojoogddndnaa
set_option maxRecDepth 100000 in
set_option maxHeartbeats 4000000 in
theorem alike29_any (A A' Ao : Option Addr) (c c' co n N i k : Nat) (nx mk : List (List Int)) (old : List Int) (w : World) (hA : AutAt w w.heap.size A c A' c' nx mk) (hU : Aut n N nx mk) (ho : Row w w.heap.size Ao (ints old)) (hol : old.length = N) (hi : i < N) (hk : k < N) (hn : n ≤ 60) (_hN : N ≤ 2000) :
    Calls Try.prog 90 #[.agg #[.slice A N c, .slice A' N c'], .slice Ao N co, .int .i64 (n : Int), .int .i64 (i : Int), .int .i64 (k : Int)] w (RetImp (old[i]? = old[k]?) w) := by
  obtain ⟨⟨hr1, _, _⟩, hr2, _, _⟩ := hA
  have HR1 := Lib.hid hr1
  have HR2 := Lib.hid hr2
  have HU := Lib.hid hU
  have HO := Lib.hid ho
  have HOL := Lib.hid hol
  obtain ⟨w1, hw1, HB1, HK1⟩ := boxV w 26 #[.slice A N c, .slice A' N c']
  have HO1 := Lib.hid (HO.out.below HB1.out)
  obtain ⟨bo, oo, x, hAo, hbo, hx, cx⟩ := HO1.out.at_int (k := i) (by rw [hol]; exact hi)
  obtain ⟨bo', oo', y, hAo', _, hy, cy⟩ := HO1.out.at_int (k := k) (by rw [hol]; exact hk)
  rw [hAo] at hAo'
  injection hAo' with hAo'
  injection hAo' with e1 e2
  subst e1 e2 hAo
  obtain ⟨bm, om, Mi, ci, mi, hAm, hbm, hmi, cmi, hm1, hm2, hm3⟩ := (HR2.out.below HB1.out).at_ (k := i) (by rw [hU.lenM]; exact hi)
  obtain ⟨bm', om', Mk, ck, mk', hAm', _, hmk, cmk, hm4, hm5, hm6⟩ := (HR2.out.below HB1.out).at_ (k := k) (by rw [hU.lenM]; exact hk)
  rw [hAm] at hAm'
  injection hAm' with hAm'
  injection hAm' with e1 e2
  subst e1 e2 hAm
  have hli := hU.mkl mi (List.mem_of_getElem? hmi.out)
  have hlk := hU.mkl mk' (List.mem_of_getElem? hmk.out)
  obtain ⟨li, hli'⟩ : ∃ z, mi.length = z := ⟨_, rfl⟩
  obtain ⟨lk, hlk'⟩ : ∃ z, mk'.length = z := ⟨_, rfl⟩
  rw [hli'] at cmi hli hm1
  rw [hlk'] at cmk hlk hm4
  have HME := Lib.hid (fun (u : World) (hu : Below w1.heap.size w1 u) => equal31_v Mi Mk ci ck u.heap.size li lk mi mk' u (hm3.below (hu.mono HB1.out.size)).lt (hm6.below (hu.mono HB1.out.size)).lt hli' hlk' (by simp only [maxLen]; omega) (by simp only [maxLen]; omega) (decide (mi = mk')) rfl)
  have hbo1 : bo < w1.heap.size := Nat.lt_of_lt_of_le hbo HB1.out.size
  have hbm1 : bm < w1.heap.size := Nat.lt_of_lt_of_le hbm HB1.out.size
  have HX := Lib.hid hx.out
  have HY := Lib.hid hy.out
  clear hr1 hr2 hU ho hol hx hy hmi hmk hm3 hm6 hli' hlk'
  unfold RetImp
  go_enter Try.func90, Try.ntmps90
  go_upto_region 1 with fail
  rw [← hw1]
  clear hw1
  obtain ⟨p0, p1, pl⟩ := blk2 HK1.out
  by_cases hxy : x = y
  · have HE : Hid (old[i]? = old[k]?) := Lib.hid (by rw [HX.out, HY.out, hxy])
    have dxy : decide (x = y) = true := decide_eq_true hxy
    go_wp2
    refine wp_region_tree (fun w' => Blk w' w.heap.size 26 #[.slice A N c, .slice (some ⟨bm, om, none⟩) N c'] ∧ w'.cell? ⟨bo, oo + i, none⟩ = some (.int .i64 x) ∧ w'.cell? ⟨bo, oo + k, none⟩ = some (.int .i64 y) ∧ w'.cell? ⟨bm, om + i, none⟩ = some (.slice Mi li ci) ∧ w'.cell? ⟨bm, om + k, none⟩ = some (.slice Mk lk ck)) (.float 0 (.float 1 (.float 2 (.float 3 (.float 4 (.float 5 (.float 6 (.float 7 (.float 8 (.float 9 (.float 10 (.float 11 (.float 12 (.float 13 (.float 14 (.float 15 (.float 16 (.float 17 (.float 18 (.float 19 (.one 20 (.float 21 (.float 22 .done))))))))))))))))))))))) (by kernel_rfl) (by kernel_rfl) (fun _ _ d _ _ h => by cases d <;> exact h) ⟨HK1.out.drew, cx, cy, cmi, cmk⟩ ?_
    repeat (first
      | (refine wpTr_fskip (by simp only [List.getElem?_toArray, List.getElem?_cons_zero, List.getElem?_cons_succ]; rfl) (by rfl) ?_
         simp only [Act.put, List.setIfInBounds_toArray, List.set_cons_zero, List.set_cons_succ])
      | (refine wpTr_float (v := ?_) (by simp only [List.getElem?_toArray, List.getElem?_cons_zero, List.getElem?_cons_succ]; rfl) (by rfl) (fun w' hS => ?_) ?_
         rotate_left
         ((obtain ⟨hSK, e1', e2', e3', e4'⟩ := hS; obtain ⟨s0', s1', sl'⟩ := blk2 hSK); go_simp; first | done | rfl)
         simp only [Act.put, List.setIfInBounds_toArray, List.set_cons_zero, List.set_cons_succ]))
    refine wpTr_one ?_
    refine stepTr_K (by simp only [List.getElem?_toArray, List.getElem?_cons_zero, List.getElem?_cons_succ]; rfl) (by rfl) (fun K hK => ?_)
    go_simp
    refine (HME.out w1.drew (Below.refl _ _).drew).mono ?_
    rintro e w2 ⟨rfl, hb2⟩
    have HB2 : Hid (Below w1.heap.size w1 w2) := Lib.hid ((Below.refl _ _).drew.trans hb2)
    have HBw2 : Hid (Below w.heap.size w w2) := Lib.hid (HB1.out.trans (HB2.out.mono HB1.out.size))
    have HK2 := Lib.hid (HK1.out.after HB2.out)
    refine hK.out _ _ ⟨HK2.out, (HB2.out.cell (p := ⟨bo, oo + i, none⟩) hbo1).trans cx, (HB2.out.cell (p := ⟨bo, oo + k, none⟩) hbo1).trans cy, (HB2.out.cell (p := ⟨bm, om + i, none⟩) hbm1).trans cmi, (HB2.out.cell (p := ⟨bm, om + k, none⟩) hbm1).trans cmk⟩ ?_
    clear hK K hb2
    try simp only [Act.put, List.setIfInBounds_toArray, List.set_cons_zero, List.set_cons_succ]
    by_cases hme : mi = mk'
    · have d2 : decide (mi = mk') = true := decide_eq_true hme
      rw [d2]
      clear d2 hme
      repeat (first
        | (refine wpTr_fskip (by simp only [List.getElem?_toArray, List.getElem?_cons_zero, List.getElem?_cons_succ]; rfl) (by rfl) ?_
           simp only [Act.put, List.setIfInBounds_toArray, List.set_cons_zero, List.set_cons_succ])
        | (refine wpTr_float (v := ?_) (by simp only [List.getElem?_toArray, List.getElem?_cons_zero, List.getElem?_cons_succ]; rfl) (by rfl) (fun w' hS => ?_) ?_
           rotate_left
           ((skip); go_simp; first | done | rfl)
           simp only [Act.put, List.setIfInBounds_toArray, List.set_cons_zero, List.set_cons_succ]))
      refine wpTr_done ?_
      clear p0 p1 pl
      go_wp2
      go_loopw [11] (fun iv wr => ∃ (j : Nat), j ≤ n ∧ iv = .int .i64 (j : Int) ∧ Hid (Below w2.heap.size w2 wr)) (fun i _ => n - (intOf i).toNat)
      case atStart => exact ⟨0, by omega, rfl, Below.refl _ _⟩
      case round =>
        obtain ⟨j, hj, rfl, HB⟩ := hrel
        have HBr : Hid (Below w.heap.size w wr) := Lib.hid (HBw2.out.trans (HB.out.mono HBw2.out.size))
        have HKr := Lib.hid (HK2.out.after HB.out)
        obtain ⟨p0, p1, pl⟩ := blk2 HKr.out
        by_cases hjn : j < n
        · obtain ⟨b1, o1, b2, o2, c2, y1, hA1, hb1, cc1, hb2, cc2, hy1⟩ := HU.out.at_ (HR1.out.below HBr.out) hi hjn
          obtain ⟨b1', o1', b3, o3, c3, y2, hA1', _, cc3, hb3, cc4, hy2⟩ := HU.out.at_ (HR1.out.below HBr.out) hk hjn
          rw [hA1] at hA1'
          injection hA1' with hA1'
          injection hA1' with e1 e2
          subst e1 e2 hA1
          have HOr := Lib.hid (HO.out.below HBr.out)
          obtain ⟨bp, op, z1, hAp, hbp, _, cz1⟩ := HOr.out.at_int (k := y1) (by rw [HOL.out]; exact hy1)
          obtain ⟨bp', op', z2, hAp', _, _, cz2⟩ := HOr.out.at_int (k := y2) (by rw [HOL.out]; exact hy2)
          injection hAp with hAp
          injection hAp with e1 e2
          subst e1 e2
          injection hAp' with hAp'
          injection hAp' with e1 e2
          subst e1 e2
          have l1 : b1 < wr.heap.size := by have := HBr.out.size; omega
          have l2 : b2 < wr.heap.size := by have := HBr.out.size; omega
          have l3 : b3 < wr.heap.size := by have := HBr.out.size; omega
          have l4 : bo < wr.heap.size := by have := HBr.out.size; omega
          by_cases hz : z1 = z2
          · have dz : decide (z1 = z2) = true := decide_eq_true hz
            go_wp2
            go_quiet (fail)
            go_wp2
            go_roundw
            case rel => exact ⟨j + 1, by omega, by go_num, below_drewN HB.out _⟩
            case measure => simp [intOf] <;> omega
          · have dz : decide (z1 = z2) = false := decide_eq_false hz
            go_wp2
            go_quiet (fail)
            go_wp2
            go_ret
            exact ⟨false, rfl, (fun h => by cases h), below_drewN HBr.out _⟩
        · go_wp2
          go_ret
          exact ⟨true, rfl, (fun _ => HE.out), HBr.out⟩
    · have d2 : decide (mi = mk') = false := decide_eq_false hme
      rw [d2]
      clear d2 hme
      repeat (first
        | (refine wpTr_fskip (by simp only [List.getElem?_toArray, List.getElem?_cons_zero, List.getElem?_cons_succ]; rfl) (by rfl) ?_
           simp only [Act.put, List.setIfInBounds_toArray, List.set_cons_zero, List.set_cons_succ])
        | (refine wpTr_float (v := ?_) (by simp only [List.getElem?_toArray, List.getElem?_cons_zero, List.getElem?_cons_succ]; rfl) (by rfl) (fun w' hS => ?_) ?_
           rotate_left
           ((skip); go_simp; first | done | rfl)
           simp only [Act.put, List.setIfInBounds_toArray, List.set_cons_zero, List.set_cons_succ]))
      refine wpTr_done ?_
      go_wp2
      go_ret
      exact ⟨false, rfl, (fun h => by cases h), HBw2.out⟩
  · have dxy : decide (x = y) = false := decide_eq_false hxy
    have bxy : (x != y) = true := by simpa using hxy
    have bxe : (x == y) = false := by simpa using hxy
    go_wp2
    refine wp_region_tree (fun w' => Blk w' w.heap.size 26 #[.slice A N c, .slice (some ⟨bm, om, none⟩) N c'] ∧ w'.cell? ⟨bo, oo + i, none⟩ = some (.int .i64 x) ∧ w'.cell? ⟨bo, oo + k, none⟩ = some (.int .i64 y)) (.float 0 (.float 1 (.float 2 (.float 3 (.float 4 (.float 5 (.float 6 (.float 7 (.float 8 (.float 9 (.float 10 (.float 11 (.float 12 (.float 13 (.float 14 (.float 15 (.float 16 (.float 17 (.float 18 (.float 19 (.one 20 (.float 21 (.float 22 .done))))))))))))))))))))))) (by kernel_rfl) (by kernel_rfl) (fun _ _ d _ _ h => by cases d <;> exact h) ⟨HK1.out.drew, cx, cy⟩ ?_
    repeat (first
      | (refine wpTr_fskip (by simp only [List.getElem?_toArray, List.getElem?_cons_zero, List.getElem?_cons_succ]; rfl) (by rfl) ?_
         simp only [Act.put, List.setIfInBounds_toArray, List.set_cons_zero, List.set_cons_succ])
      | (refine wpTr_float (v := ?_) (by simp only [List.getElem?_toArray, List.getElem?_cons_zero, List.getElem?_cons_succ]; rfl) (by rfl) (fun w' hS => ?_) ?_
         rotate_left
         ((obtain ⟨hSK, e1', e2'⟩ := hS; obtain ⟨s0', s1', sl'⟩ := blk2 hSK); go_simp; first | done | rfl)
         simp only [Act.put, List.setIfInBounds_toArray, List.set_cons_zero, List.set_cons_succ]))
    refine wpTr_one ?_
    refine wpTr_skip (by simp only [List.getElem?_toArray, List.getElem?_cons_zero, List.getElem?_cons_succ]; rfl) (by rfl) ?_
    try simp only [Act.put, List.setIfInBounds_toArray, List.set_cons_zero, List.set_cons_succ]
    repeat (first
      | (refine wpTr_fskip (by simp only [List.getElem?_toArray, List.getElem?_cons_zero, List.getElem?_cons_succ]; rfl) (by rfl) ?_
         simp only [Act.put, List.setIfInBounds_toArray, List.set_cons_zero, List.set_cons_succ])
      | (refine wpTr_float (v := ?_) (by simp only [List.getElem?_toArray, List.getElem?_cons_zero, List.getElem?_cons_succ]; rfl) (by rfl) (fun w' hS => ?_) ?_
         rotate_left
         ((skip); go_simp; first | done | rfl)
         simp only [Act.put, List.setIfInBounds_toArray, List.set_cons_zero, List.set_cons_succ]))
    refine wpTr_done ?_
    go_wp2
    go_ret
    exact ⟨false, rfl, (fun h => by cases h), HB1.out.drew⟩
/-- what divide returns: for each state one up to it that has the same number -/
def DivOk (old out : List Int) (N : Nat) : Prop := out.length = N ∧ ∀ (i : Nat) (x : Int), out[i]? = some x → 0 ≤ x ∧ x ≤ (i : Int) ∧ old[i]? = old[x.toNat]?
theorem DivOk.snoc {old out : List Int} {j k : Nat} (h : DivOk old out j) (hk : k ≤ j) (he : old[j]? = old[k]?) : DivOk old (out ++ [(k : Int)]) (j + 1) := by
  refine ⟨by simp [h.1], fun i x hx => ?_⟩
  by_cases hi : i < out.length
  · rw [List.getElem?_append_left hi] at hx
    exact h.2 i x hx
  · have hi2 : i = out.length := by
      have := (List.getElem?_eq_some_iff.1 hx).1
      simp at this
      omega
    subst hi2
    rw [List.getElem?_append_right (Nat.le_refl _), Nat.sub_self] at hx
    simp at hx
    subst hx
    rw [h.1]
    exact ⟨by omega, by omega, by simpa using he⟩
set_option maxRecDepth 100000 in
set_option maxHeartbeats 4000000 in
theorem divide29_any (A A' Ao : Option Addr) (c c' co n N : Nat) (nx mk : List (List Int)) (old : List Int) (w : World) (hA : AutAt w w.heap.size A c A' c' nx mk) (hU : Aut n N nx mk) (ho : Row w w.heap.size Ao (ints old)) (hol : old.length = N) (hn : n ≤ 60) (hN : N ≤ 2000) :
    Calls Try.prog 72 #[.agg #[.slice A N c, .slice A' N c'], .slice Ao N co, .int .i64 (n : Int)] w fun e w' => ∃ (A1 : Option Addr) (c1 : Nat) (out : List Int), e = .returned (.slice A1 N c1) ∧ Hid (w'.ownsRow w.heap.size 3 1 (.slice A1 N c1) N (ints out)) ∧ Hid (DivOk old out N) ∧ Hid (Below w.heap.size w w') := by
  obtain ⟨i0, hi0, hz0, hz1, hz2⟩ := info_parts in_info31
  have HA := Lib.hid hA
  have HU := Lib.hid hU
  have HO := Lib.hid ho
  have HOL := Lib.hid hol
  obtain ⟨w1, hw1, HB1, HK1⟩ := boxV w 26 #[.slice A N c, .slice A' N c']
  have hw1s : w.heap.size < w1.heap.size := HK1.out.lt
  clear hA hU ho hol
  go_enter Try.func72, Try.ntmps72
  go_upto_region 1 with fail
  rw [← hw1]
  clear hw1
  go_wp2
  go_loopw [7, 8] (fun ov iv wr => ∃ (j c1 : Nat) (A1 : Option Addr) (out : List Int), j ≤ N ∧ iv = .int .i64 (j : Int) ∧ ov = .slice A1 j c1 ∧ Hid (wr.ownsRow w1.heap.size 3 1 (.slice A1 j c1) j (ints out)) ∧ Hid (DivOk old out j) ∧ Hid (Below w1.heap.size w1 wr)) (fun _ i _ => N - (intOf i).toNat)
  case atStart => exact ⟨0, 0, none, [], by omega, rfl, rfl, own_nil _, ⟨rfl, fun i x h => by simp at h⟩, Below.refl _ _⟩
  case round =>
    obtain ⟨j, c1, A1, out, hj, rfl, rfl, HOO, HDV, HB⟩ := hrel
    obtain ⟨wo, hwo⟩ : ∃ z, z = wr := ⟨_, rfl⟩
    subst hwo
    have hbs := HB.out.size
    have HKr := Lib.hid (HK1.out.after HB.out)
    obtain ⟨p0, p1, pl⟩ := blk2 HKr.out
    by_cases hjn : j < N
    · go_wp2
      clear p0 p1 pl
      go_loopw [9] (fun iv wr => ∃ (k : Nat), k ≤ j ∧ iv = .int .i64 (k : Int) ∧ Hid (Below wo.heap.size wo wr)) (fun i _ => j - (intOf i).toNat)
      case atStart => exact ⟨0, by omega, rfl, Below.refl _ _⟩
      case round =>
        obtain ⟨k, hk, rfl, HBk⟩ := hrel
        obtain ⟨wk, hwk⟩ : ∃ z, z = wr := ⟨_, rfl⟩
        subst hwk
        have hbk := HBk.out.size
        have HKk := Lib.hid (HKr.out.after HBk.out)
        obtain ⟨p0, p1, pl⟩ := blk2 HKk.out
        have HBw : Hid (Below w.heap.size w wk) := Lib.hid ((HB1.out.trans (HB.out.mono (by omega))).trans (HBk.out.mono (by omega)))
        by_cases hkj : k < j
        · have CA := Lib.hid (alike29_any A A' Ao c c' co n N j k nx mk old wk (AutAt.lt (AutAt.below HA.out HBw.out)) HU.out (HO.out.below HBw.out).lt HOL.out hjn (by omega) hn hN)
          unfold RetImp at CA
          go_wp2_with fail
          refine CA.out.mono ?_
          rintro e w3 ⟨v, rfl, hv, hb3⟩
          have HB3 : Hid (Below wo.heap.size wo w3) := Lib.hid (HBk.out.trans (hb3.mono hbk))
          have HV := Lib.hid hv
          clear hv hb3
          cases v
          · go_wp2
            go_roundw
            case rel => exact ⟨k + 1, by omega, by go_num, HB3⟩
            case measure => simp [intOf] <;> omega
          · have HO4 := Lib.hid (ow_below HOO.out (HB3.out))
            have HB4 : Hid (Below w1.heap.size w1 w3) := Lib.hid (HB.out.trans ((HB3.out).mono hbs))
            have hbs4 := HB4.out.size
            have HDV' : Hid (DivOk old (out ++ [(k : Int)]) (j + 1)) := Lib.hid (HDV.out.snoc (by omega) (HV.out rfl))
            go_wp2_with (first
              | (at_builtin
                 refine wpList_append_row _ rfl (.tmp 31) (.tmp 33) _ rfl w1.heap.size 3 i0 _ 1 8 Try.underlying23 hi0 hz0 hz1 hz2 rfl (by omega) (.slice A1 j c1) j (ints out) rfl (ow_alloc HO4.out _) _ _ 1 1 [Value.int .i64 (k : Int)] rfl rfl (row_lit w3 _ _) (ints_one1 _) (by simp only [maxLen]; omega) (by omega) (by simp; omega) ?_
                 intro q5 w5 o5 g5 t5
                 obtain ⟨A5, c5, rfl⟩ := ow_slice (m := j + 1) o5 rfl
                 rw [← ints_snoc] at o5
                 have HB5 : Hid (Below w1.heap.size w1 w5) := (HB4.out.alloc hbs4 _).grown g5 (by simp; omega) (fun g hg => own_base HO4.out g hg)
                 have HO5 := Lib.hid o5
                 clear o5 g5 t5))
            go_roundw
            case rel => exact ⟨j + 1, c5, A5, _, by omega, by go_num, rfl, HO5, HDV', HB5⟩
            case measure => simp [intOf] <;> omega
        · obtain rfl : k = j := by omega
          have HO4 := Lib.hid (ow_below HOO.out (HBk.out))
          have HB4 : Hid (Below w1.heap.size w1 wk) := Lib.hid (HB.out.trans ((HBk.out).mono hbs))
          have hbs4 := HB4.out.size
          have HDV' : Hid (DivOk old (out ++ [(k : Int)]) (k + 1)) := Lib.hid (HDV.out.snoc (by omega) (rfl))
          go_wp2_with (first
            | (at_builtin
               refine wpList_append_row _ rfl (.tmp 31) (.tmp 33) _ rfl w1.heap.size 3 i0 _ 1 8 Try.underlying23 hi0 hz0 hz1 hz2 rfl (by omega) (.slice A1 k c1) k (ints out) rfl (ow_alloc HO4.out _) _ _ 1 1 [Value.int .i64 (k : Int)] rfl rfl (row_lit wk _ _) (ints_one1 _) (by simp only [maxLen]; omega) (by omega) (by simp; omega) ?_
               intro q5 w5 o5 g5 t5
               obtain ⟨A5, c5, rfl⟩ := ow_slice (m := k + 1) o5 rfl
               rw [← ints_snoc] at o5
               have HB5 : Hid (Below w1.heap.size w1 w5) := (HB4.out.alloc hbs4 _).grown g5 (by simp; omega) (fun g hg => own_base HO4.out g hg)
               have HO5 := Lib.hid o5
               clear o5 g5 t5))
          go_roundw
          case rel => exact ⟨k + 1, c5, A5, _, by omega, by go_num, rfl, HO5, HDV', HB5⟩
          case measure => simp [intOf] <;> omega
    · obtain rfl : j = N := by omega
      go_wp2
      go_ret
      exact ⟨A1, c1, out, rfl, Lib.hid (ow_lower HOO.out (by omega)), HDV, Lib.hid (HB1.out.trans (HB.out.mono (by omega)))⟩
end Go.Proofs.Ytkoojoogddndnaa
