/-
  slices.Grow and slices.Concat at lists of sets.
-/
import Derived.Test.YtjohoohdjlajcaaProg
import Derived.Test.YtjohoohdjlajcaaBase
import Derived.Test.YtjohoohdjlajcaaOwn
import Derived.Test.YtjohoohdjlajcaaTd1
import Derived.Lib.AppendZeros
import Derived.Laws.OwnMore
import Derived.WalkKit
import Derived.WalkSpells
import Derived.OwnWalk
import Derived.KernelRfl
import Derived.Outline
import Derived.Deep.QuietTactic
import Derived.BigQuiet
import Derived.Deep.DeepCutAuto
import Derived.IntWalk
namespace Go.UtYtjohoohdjlajcaa
open Go.RowKit
theorem wpList_append_zeros {P : Program} (w : World) {ops : Array Oper} {rest : List Oper} {o : Oper} {a : Act} {Q : Exit → Act → World → Prop} (hgd : o.guard = none) (s x : Operand) (t tn : TypeId)
    (ho : o.op = .call { callee := .builtin .append, args := #[s, x], argTypes := #[t, tn] })
    (e : TypeId) (i : TypeInfo) (z : Value) (k kn : IntKind) (ht : P.underlying t = some (.slice e)) (htn : P.underlying tn = some (.int kn)) (hi : P.info? e = some i) (hz : i.zero = some z)
    (hsize : i.size = 1) (hzs : z.cells.size = 1) (n : Nat) (h0 : 0 < n) (h63 : n ≤ maxLen) (h48 : n * i.bytes ≤ 281474976710656)
    (hs : a.eval s = .slice none 0 0) (hx : a.eval x = .int k n)
    (h : ∀ g c w', n ≤ c → w'.ownsRow w.heap.size e 1 (.slice (some ⟨g, 0, none⟩) 0 c) 0 [] → Below w.heap.size w w' → wpList P ops Q rest (a.put o.dst (.slice (some ⟨g, 0, none⟩) n c)) w') : wpList P ops Q (o :: rest) a w := by
  refine wpList_plain hgd fun _ hK => ?_
  have hrun := Lib.run_append_nil_zeros (P := P) w t tn o.type e i z k kn ht htn hi hz n h0 (by omega) (by simp only [maxLen] at h63; omega) h48
  have hc := grownCap_ge w n 0 e
  have hm := grownCap_le_maxLen w n 0 e h63
  unfold Oper.wp execOp
  simp only [ho, resolve, invoke, builtin, Sem.run_bind, Sem.run_pure, Result.andThen_ok, List.map_toArray, List.map_cons, List.map_nil, hs, hx, hrun]
  refine hK _ _ (h w.heap.size _ _ hc ⟨rfl, .inr ⟨w.heap.size, _, (Builtin.zeroCells z.cells n ++ Builtin.zeroCells z.cells (grownCap w n 0 e - n)), rfl, Nat.le_refl _, ?_, by omega, hm, ?_, by simp⟩⟩ ?_)
  · exact Blk.new w.drew e _
  · simp only [Builtin.zeroCells, Array.size_append, Array.size_map, Array.size_range, hzs]
    omega
  · exact (below_drewN (Below.refl _ _) 1).alloc (Nat.le_refl _) _
end Go.UtYtjohoohdjlajcaa
namespace Go.Proofs.Ytjohoohdjlajcaa
open Go.RowKit Go.UtYtjohoohdjlajcaa
attribute [local go_sem high] cut_l cut_lh cut_lhm cutA_zero
attribute [local go_sem 500] cut_any
theorem set_info : (Try.prog.info? 45).map (fun i => (i.zero.map (fun z => z.cells.size), i.size, i.bytes)) = some (some 1, 1, 24) := by kernel_rfl
theorem set_zero : ∃ i z, Try.prog.info? 45 = some i ∧ i.zero = some z ∧ z.cells.size = 1 ∧ i.size = 1 ∧ i.bytes = 24 := by
  have h := set_info
  cases e : Try.prog.info? 45 with
  | none => rw [e] at h; cases h
  | some i =>
    rw [e] at h
    simp only [Option.map_some, Option.some.injEq, Prod.mk.injEq] at h
    obtain ⟨h1, h2, h3⟩ := h
    cases e2 : i.zero with
    | none => rw [e2] at h1; cases h1
    | some z =>
      rw [e2] at h1
      exact ⟨i, z, rfl, e2, by simpa using h1, h2, h3⟩
set_option maxRecDepth 8000 in
set_option maxHeartbeats 1000000 in
theorem grow_any (n : Nat) (w : World) (hn : n ≤ 65536) :
    Calls Try.prog 56 #[.slice none 0 0, .int .i64 n] w (fun e w' => ∃ v, e = .returned v ∧ w'.ownsRow w.heap.size 45 1 v 0 [] ∧ Below w.heap.size w w') := by
  obtain ⟨i0, z0, hi0, hz0, hzs, hz1, hz2⟩ := set_zero
  rcases Nat.eq_zero_or_pos n with rfl | h0
  · go_enter Try.func56, Try.ntmps56
    go_wp
    go_ret
    exact ⟨_, rfl, own_nil w, Below.refl _ _⟩
  · go_enter Try.func56, Try.ntmps56
    go_wp2_with (first
    | (at_builtin
       refine wpList_append_zeros w rfl (.tmp 20) (.tmp 21) _ _ rfl 45 i0 z0 .i64 .i64 Try.underlying38 Try.underlying3 hi0 hz0 hz1 hzs n h0 (by simp only [maxLen]; omega) (by rw [hz2]; omega) rfl rfl ?_
       intro g c w1 hc hown hb
       have ho := Lib.hid hown
       have hb1 := Lib.hid hb
       clear hown hb))
    go_ret
    exact ⟨_, rfl, ho.out, hb1.out⟩
/-- slices, given by address, capacity and what they hold -/
def slv (ps : List (Option Addr × Nat × List Value)) : List Value := ps.map fun p => .slice p.1 p.2.2.length p.2.1
def slc (ps : List (Option Addr × Nat × List Value)) : List Value := ps.flatMap fun p => p.2.2
theorem slc_take {ps : List (Option Addr × Nat × List Value)} {k : Nat} {p : Option Addr × Nat × List Value} (h : ps[k]? = some p) : slc (ps.take (k + 1)) = slc (ps.take k) ++ p.2.2 := by
  obtain ⟨hk, e⟩ := List.getElem?_eq_some_iff.1 h
  rw [List.take_succ_eq_append_getElem hk, e]
  simp [slc]
theorem slc_le (ps : List (Option Addr × Nat × List Value)) (k : Nat) : (slc (ps.take k)).length ≤ (slc ps).length := by
  have : slc ps = slc (ps.take k) ++ slc (ps.drop k) := by rw [slc, slc, slc, ← List.flatMap_append, List.take_append_drop]
  rw [this, List.length_append]
  omega
set_option maxRecDepth 8000 in
set_option maxHeartbeats 1000000 in
theorem concat_any (A : Option Addr) (c B : Nat) (ps : List (Option Addr × Nat × List Value)) (w : World) (hR : Row w B A (slv ps)) (hB : B ≤ w.heap.size)
    (hp : ∀ p ∈ ps, Row w B p.1 p.2.2 ∧ ∀ u ∈ p.2.2, u.oneCell' = true) (hl : (slc ps).length ≤ 65536) (hps : ps.length ≤ 65536) :
    Calls Try.prog 50 #[.slice A ps.length c] w (fun e w' => ∃ A' c', e = .returned (.slice A' (slc ps).length c') ∧ (slc ps).length ≤ c' ∧ c' ≤ maxLen ∧ Row w' w'.heap.size A' (slc ps) ∧ Below w.heap.size w w') := by
  obtain ⟨i0, z0, hi0, hz0, hzs, hz1, hz2⟩ := set_zero
  have HR := Lib.hid hR
  have HP := Lib.hid hp
  clear hR hp
  go_enter Try.func50, Try.ntmps50
  go_wp2
  go_loopw [11, 3, 5] (fun i n _ wr => ∃ k : Nat, k ≤ ps.length ∧ i = .int .i64 (k : Int) ∧ n = .int .i64 ((slc (ps.take k)).length : Int) ∧ wr = w) (fun i _ _ _ => ps.length - (intOf i).toNat)
  case atStart => exact ⟨0, by omega, rfl, rfl, rfl⟩
  case round =>
    obtain ⟨k, hk, rfl, rfl, hw⟩ := hrel
    subst wr
    have hle := slc_le ps k
    by_cases h1 : k < ps.length
    · obtain ⟨b, o, v, rfl, hb, hv, c1⟩ := HR.out.at_ (k := k) (by simpa [slv] using h1)
      obtain ⟨p, hpk⟩ : ∃ p, Hid (ps[k]? = some p) := ⟨ps[k], List.getElem?_eq_getElem h1⟩
      obtain rfl : v = .slice p.1 p.2.2.length p.2.1 := by
        have := hpk.out
        simp only [slv, List.getElem?_map, this, Option.map_some, Option.some.injEq] at hv
        exact hv.symm
      have ht := Lib.hid (slc_take hpk.out)
      have hle2 := slc_le ps (k + 1)
      have hadd : ((slc (ps.take (k + 1))).length : Int) = (slc (ps.take k)).length + p.2.2.length := by rw [ht.out, List.length_append]; omega
      go_wp2
      go_roundw
      case rel => exact ⟨k + 1, by omega, by go_num, by (rw [hadd]) <;> go_num, by trivial⟩
      case measure => simp [intOf]; omega
    · obtain rfl : k = ps.length := by omega
      rw [List.take_length] at *
      go_wp2_with (first | (go_at_call 56; refine (grow_any _ _ hl).mono ?_; rintro e w1 ⟨v1, rfl, ho1, hb1⟩))
      obtain ⟨A1, c1, rfl⟩ := ow_slice ho1 rfl
      have HO1 := Lib.hid ho1
      have HB1 := Lib.hid hb1
      clear ho1 hb1
      go_loopw [27, 6, 8] (fun i p _ wr => ∃ (k n c' : Nat) (A' : Option Addr), k ≤ ps.length ∧ i = .int .i64 (k : Int) ∧ p = .slice A' n c' ∧ n = (slc (ps.take k)).length ∧ Hid (wr.ownsRow w.heap.size 45 1 (.slice A' n c') n (slc (ps.take k))) ∧ Hid (Below w.heap.size w wr)) (fun i _ _ _ => ps.length - (intOf i).toNat)
      case atStart => exact ⟨0, 0, c1, A1, by omega, rfl, rfl, rfl, HO1, HB1⟩
      case round =>
        obtain ⟨k, n, c', A', hk, rfl, rfl, hn, HO, HB⟩ := hrel
        have hle := slc_le ps k
        by_cases h1 : k < ps.length
        · obtain ⟨b, o, v, rfl, hb, hv, c1⟩ := (HR.out.below (HB.out.mono hB)).at_ (k := k) (by simpa [slv] using h1)
          obtain ⟨p, hpk⟩ : ∃ p, Hid (ps[k]? = some p) := ⟨ps[k], List.getElem?_eq_getElem h1⟩
          obtain rfl : v = .slice p.1 p.2.2.length p.2.1 := by
            have := hpk.out
            simp only [slv, List.getElem?_map, this, Option.map_some, Option.some.injEq] at hv
            exact hv.symm
          have ht := Lib.hid (slc_take hpk.out)
          have hle2 := slc_le ps (k + 1)
          have hadd : (slc (ps.take (k + 1))).length = n + p.2.2.length := by rw [ht.out, List.length_append]; omega
          have HQ := Lib.hid (HP.out p (List.mem_of_getElem? hpk.out))
          go_wp2_with (first
            | (at_builtin
               refine wpList_append_row _ rfl (.tmp 31) (.tmp 32) _ rfl w.heap.size 45 i0 z0 1 24 Try.underlying38 hi0 hz0 hz1 hz2 hzs (by omega) (.slice A' n c') n (slc (ps.take k)) rfl HO.out _ _ p.2.2.length p.2.1 p.2.2 rfl (by simp) (HQ.out.1.below (HB.out.mono hB)) HQ.out.2 (by simp only [maxLen]; omega) (by omega) HB.out.size ?_
               intro q4 w4 o4 g4 t4
               obtain ⟨A4, c4, rfl⟩ := ow_slice o4 rfl
               have HB4 : Hid (Below w.heap.size w w4) := HB.out.grown g4 HB.out.size (fun g hg => own_base HO.out g hg)
               have HO4 := Lib.hid o4
               clear o4 g4 t4))
          go_roundw
          case rel => exact ⟨k + 1, n + p.2.2.length, c4, A4, by omega, by go_num, by rw [hn], by omega, by rw [ht.out]; exact HO4, HB4⟩
          case measure => simp [intOf]; omega
        · obtain rfl : k = ps.length := by omega
          rw [List.take_length] at *
          subst hn
          go_wp2
          go_ret
          obtain ⟨hr, hc1, hc2⟩ := ow_row HO.out
          exact ⟨_, _, rfl, hc1, hc2, hr, HB.out⟩
end Go.Proofs.Ytjohoohdjlajcaa
