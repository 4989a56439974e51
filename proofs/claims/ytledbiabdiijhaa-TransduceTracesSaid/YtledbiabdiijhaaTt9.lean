/-
  transduce.Trace.
-/
import Derived.Test.YtledbiabdiijhaaTt8
namespace Go.UtYtledbiabdiijhaa
open Go.RowKit
/-- triples of integers, cell by cell -/
def tr3 (l : List (Int × Int × Int)) : List Value := l.flatMap fun r => [.int .i64 r.1, .int .i64 r.2.1, .int .i64 r.2.2]
theorem tr3_len (l : List (Int × Int × Int)) : (tr3 l).length = l.length * 3 := by
  induction l with
  | nil => rfl
  | cons r l ih => simp only [tr3, List.flatMap_cons, List.length_append, List.length_cons, List.length_nil] at ih ⊢; omega
theorem tr3_snoc (l : List (Int × Int × Int)) (a b c : Int) : tr3 (l ++ [(a, b, c)]) = tr3 l ++ [.int .i64 a, .int .i64 b, .int .i64 c] := by simp [tr3]
theorem tr3_get {l : List (Int × Int × Int)} {k : Nat} {r : Int × Int × Int} (h : l[k]? = some r) : (tr3 l)[k * 3]? = some (.int .i64 r.1) ∧ (tr3 l)[k * 3 + 1]? = some (.int .i64 r.2.1) ∧ (tr3 l)[k * 3 + 2]? = some (.int .i64 r.2.2) := by
  induction l generalizing k with
  | nil => simp at h
  | cons s l ih =>
    cases k with
    | zero =>
      simp at h
      subst h
      simp [tr3]
    | succ k =>
      simp at h
      obtain ⟨h1, h2, h3⟩ := ih h
      have e : tr3 (s :: l) = .int .i64 s.1 :: .int .i64 s.2.1 :: .int .i64 s.2.2 :: tr3 l := by simp [tr3]
      rw [e, show (k + 1) * 3 = k * 3 + 1 + 1 + 1 by omega]
      exact ⟨h1, h2, h3⟩
theorem at_tr {w : World} {B : Nat} {A : Option Addr} {l : List (Int × Int × Int)} (h : Row w B A (tr3 l)) {k : Nat} (hk : k < l.length) : ∃ b o x y z, A = some ⟨b, o, none⟩ ∧ b < B ∧ Hid (l[k]? = some (x, y, z)) ∧ w.cell? ⟨b, o + k * 3, none⟩ = some (.int .i64 x) ∧ w.cell? ⟨b, o + k * 3 + 1, none⟩ = some (.int .i64 y) ∧ w.cell? ⟨b, o + k * 3 + 2, none⟩ = some (.int .i64 z) := by
  have e : l[k]? = some l[k] := List.getElem?_eq_getElem hk
  obtain ⟨g1, g2, g3⟩ := tr3_get e
  obtain ⟨b, o, hA, hb, hc⟩ := h (fun e => by have := tr3_len l; rw [e] at this; simp at this; omega)
  refine ⟨b, o, l[k].1, l[k].2.1, l[k].2.2, hA, hb, e, hc _ _ g1, ?_, ?_⟩
  · have := hc _ _ g2
    rwa [Nat.add_assoc]
  · have := hc _ _ g3
    rwa [Nat.add_assoc]
/-- The call returns a slice that reads as triples; nothing older has changed. -/
def RetT (w : World) (l : List (Int × Int × Int)) (e : Ending) (w' : World) : Prop :=
  ∃ A c, e = .returned (.slice A l.length c) ∧ l.length ≤ c ∧ c ≤ maxLen ∧ Row w' w'.heap.size A (tr3 l) ∧ Below w.heap.size w w'
end Go.UtYtledbiabdiijhaa
namespace Go.Proofs.Ytledbiabdiijhaa
open Go.RowKit Go.UtYtledbiabdiijhaa
theorem t3_info : (Try.prog.info? 46).map (fun i => (i.zero, i.size, i.bytes)) = some (some (.agg #[.int .i64 0, .int .i64 0, .int .i64 0]), 3, 24) := by kernel_rfl
set_option maxRecDepth 100000 in
set_option maxHeartbeats 2000000 in
theorem pTrace_any (A At : Option Addr) (c ct : Nat) (rules : List TR) (text : List Int) (w : World) (hR : RulesAt w w.heap.size A rules) (hs : smR rules) (hl : rules.length ≤ c) (hc : c ≤ maxLen) (hrl : rules.length ≤ 1000000)
    (hT : Row w w.heap.size At (ints text)) (htl : text.length ≤ 10000) (R : List (Int × Int × Int)) (hRes : trR (dataL rules) text 0 = R) :
    Calls Try.prog 23 #[.slice A rules.length c, .slice At text.length ct] w (RetT w R) := by
  have HC := Lib.hid (compiled_any A c rules w hR hs hl hc hrl)
  have HT := Lib.hid hT
  have HRS := Lib.hid hRes
  have hDL : (dataL rules).length ≤ 1000000 := Nat.le_trans (data_len rules) hrl
  have HMO := Lib.hid (data_mat rules)
  obtain ⟨D, hD⟩ : ∃ D, dataL rules = D := ⟨_, rfl⟩
  obtain ⟨rn, hrn⟩ : ∃ n, rules.length = n := ⟨_, rfl⟩
  obtain ⟨nt, hnt⟩ : ∃ n, text.length = n := ⟨_, rfl⟩
  unfold RetTrie at HC
  rw [hD] at HC HRS hDL HMO
  rw [hrn] at HC
  obtain ⟨dn, hdn⟩ : ∃ n, D.length = n := ⟨_, rfl⟩
  rw [hdn] at hDL
  rw [hnt] at htl
  rw [hrn, hnt]
  have HNT := Lib.hid hnt
  have HDN := Lib.hid hdn
  clear hR hs hl hc hrl hT hRes hrn hnt hD hdn
  obtain ⟨i0, hi0, hz0, hz1, hz2⟩ := info_parts t3_info
  go_enter Try.func23, Try.ntmps23
  go_wp2_with (first
    | (go_at_call 28
       refine HC.out.mono ?_
       rintro e w1 ⟨g, A', c', rfl, htr, hru, hb1⟩
       replace htr := Lib.hid htr
       have HRU := Lib.hid hru
       have HB1 := Lib.hid hb1
       clear hru hb1))
  go_loopw [5, 7] (fun res at_ wr => ∃ (p n0 c0 nn : Nat) (A0 : Option Addr) (out : List (Int × Int × Int)) (nodes : List (List Int)), at_ = .int .i64 (p : Int) ∧ p ≤ nt ∧ res = .slice A0 n0 c0 ∧ n0 ≤ p ∧ nn ≤ 1 + 10000 * p ∧ Hid (nodes.length = nn) ∧ Hid (out.length = n0) ∧ Hid (out ++ trR D text p = R) ∧ Hid (wr.ownsRow w.heap.size 46 3 (.slice A0 n0 c0) n0 (tr3 out)) ∧ Hid (TrieAt 59 23 3 wr w.heap.size g (fun x => (Value.slice A0 n0 c0).ownBlock = some x) A' c' D nodes) ∧ Hid (Below w.heap.size w wr)) (fun _ at_ _ => nt - (intOf at_).toNat)
  case atStart => exact ⟨0, 0, 0, 1, none, [], [[]], rfl, by omega, rfl, by omega, by omega, rfl, rfl, HRS.out, own_nil _, htr.out.newX (fun x hx => by simp [Value.ownBlock] at hx), HB1⟩
  case round =>
    obtain ⟨p, n0, c0, nn, A0, out, nodes, rfl, hp, rfl, hn0, hnn, HNN, HOL, HOUT, HO, HTR, HB⟩ := hrel
    have hbs := HB.out.size
    by_cases hpn : p < nt
    · have HSTEP := tstep_any A' At c' ct w.heap.size g (fun x => (Value.slice A0 n0 c0).ownBlock = some x) D text nodes p wr (HRU.out.below HB.out) HTR.out (fun x hx => (own_lt HO.out x hx).2.1) (HT.out.below HB.out) (by rw [HNT.out]; omega) (by rw [HNT.out]; omega) (by rw [HNT.out, HNN.out]; omega) (by rw [HDN.out]; exact hDL)
      rw [HNT.out] at HSTEP
      replace HSTEP := Lib.hid HSTEP
      obtain ⟨i, m0, hst⟩ := step_ex D text p
      have HST := Lib.hid hst
      have hm1 := step_pos HMO.out hst
      have hm2 := step_in (by rw [HNT.out]; exact hpn) hst
      rw [HNT.out] at hm2
      obtain ⟨m, rfl⟩ : ∃ m : Nat, m0 = (m : Int) := ⟨m0.toNat, by omega⟩
      have HO1 : Hid ((out ++ [((p : Int), i, (m : Int))]) ++ trR D text (p + m) = R) := by
        have := HOUT.out
        rw [trR_step HMO.out (by rw [HNT.out]; exact hpn) HST.out, Int.toNat_natCast] at this
        show _ = _
        simpa using this
      clear hst
      go_wp2_with (first
        | (at_builtin
           refine wpList_append_row _ rfl (.tmp 23) (.tmp 28) _ rfl w.heap.size 46 i0 _ 3 24 Try.underlying44 hi0 hz0 hz1 hz2 rfl (by omega) (.slice A0 n0 c0) n0 (tr3 out) rfl (ow_alloc HO2.out _) _ _ 1 1 [Value.int .i64 (p : Int), Value.int .i64 i, Value.int .i64 (m : Int)] rfl rfl (row_lit w2 _ _) (by simp [Value.oneCell']) (by simp only [maxLen]; omega) (by omega) (by have := HB2.out.size; simp; omega) ?_
           intro q4 w4 o4 g4 t4
           obtain ⟨A4, c4, rfl⟩ := ow_slice (m := n0 + 1) o4 rfl
           rw [← tr3_snoc] at o4
           have HB4 : Hid (Below w.heap.size w w4) := (HB2.out.alloc HB2.out.size _).grown g4 (by have := HB2.out.size; simp; omega) (fun g hg => own_base HO2.out g hg)
           have HT4 := Lib.hid (TrieAt.app HT2.out g4 t4)
           have HO4 := Lib.hid o4
           clear o4 g4 t4)
        | (go_at_call 29
           refine HSTEP.out.mono ?_
           rintro e w2 ⟨i', m', nodes2, rfl, h1, h2, h3, h4, h5⟩
           obtain ⟨rfl, rfl⟩ := step_unique HST.out h1
           have HT2 := Lib.hid h2
           rw [HNN.out, HNT.out] at h3
           have HO2 : Hid (w2.ownsRow w.heap.size 46 3 (.slice A0 n0 c0) n0 (tr3 out)) := own_keepX HO.out (fun x hx _ => h5 x hx)
           have HB2 : Hid (Below w.heap.size w w2) := HB.out.trans h4
           clear h1 h2 h4 h5))
      go_roundw
      case rel => exact ⟨p + m, n0 + 1, c4, nodes2.length, A4, _, nodes2, by go_num, by omega, rfl, by omega, by omega, rfl, by show _ = _; simp [HOL.out], HO1, HO4, HT4, HB4⟩
      case measure => simp [intOf]; omega
    · obtain rfl : p = nt := by omega
      have HF : Hid (out = R) := by
        have := HOUT.out
        rw [trR_end (by rw [HNT.out]; omega), List.append_nil] at this
        exact this
      go_wp2
      go_ret
      obtain ⟨hr, hc1, hc2⟩ := ow_row HO.out
      have hle := HOL.out
      rw [← HF.out]
      exact ⟨A0, c0, by rw [hle]; rfl, by omega, hc2, hr, HB.out⟩
end Go.Proofs.Ytledbiabdiijhaa
