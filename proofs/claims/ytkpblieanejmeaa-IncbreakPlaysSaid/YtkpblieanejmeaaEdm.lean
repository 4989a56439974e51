/-
  edits Check, Apply, Invert, of the program and of the reference, for every edit.
-/
import Derived.Test.YtkpblieanejmeaaProg
import Derived.Test.YtkpblieanejmeaaBase
import Derived.WalkKit
import Derived.WalkSpells
import Derived.OwnWalk
import Derived.Laws.CopyOwn
import Derived.KernelRfl
import Derived.Outline
import Derived.Test.YtkpblieanejmeaaRef1
import Derived.Deep.RegionHeld3
namespace Go.Proofs.Ytkpblieanejmeaa
open Go.RowKit Go.UtYtkpblieanejmeaa
attribute [local go_sem high] cut_l cut_lh cut_lhm cutA_zero
attribute [local go_sem 500] cut_any
/-- the call returns a slice that reads as xs; nothing older has changed -/
def RetInts (w : World) (xs : List Int) (e : Ending) (w' : World) : Prop :=
  ∃ A c, e = .returned (.slice A xs.length c) ∧ xs.length ≤ c ∧ c ≤ maxLen ∧ Row w' w'.heap.size A (ints xs) ∧ NewAt w.heap.size A ∧ Below w.heap.size w w'
set_option maxRecDepth 100000 in
theorem int_info : (Try.prog.info? 3).map (fun i => (i.zero, i.size, i.bytes)) = some (some (.int .i64 0), 1, 8) := by kernel_rfl
set_option maxRecDepth 100000 in
theorem int_size : (Try.prog.info? 3).map (·.size) = some 1 := by kernel_rfl
set_option maxRecDepth 100000 in
set_option maxHeartbeats 1000000 in
theorem join_any (A1 A2 A3 : Option Addr) (c1 c2 c3 B : Nat) (xs ys zs : List Int) (w : World) (h1 : Row w B A1 (ints xs)) (h2 : Row w B A2 (ints ys)) (h3 : Row w B A3 (ints zs)) (hB : B ≤ w.heap.size)
    (hl : xs.length + ys.length + zs.length ≤ 65536) :
    Calls Try.prog 68 #[.slice A1 xs.length c1, .slice A2 ys.length c2, .slice A3 zs.length c3] w (RetInts w (xs ++ ys ++ zs)) := by
  obtain ⟨i0, hi0, hz0, hz1, hz2⟩ := info_parts int_info
  have H1 := Lib.hid h1
  have H2 := Lib.hid h2
  have H3 := Lib.hid h3
  clear h1 h2 h3
  have hk : w.heap.size ≤ w.heap.size := Nat.le_refl _
  go_enter Try.func68, Try.ntmps68
  go_wp2_with (first
    | (at_builtin
       refine wpList_append_row _ rfl (.tmp 8) (.tmp 9) _ rfl w.heap.size 3 i0 _ 1 8 Try.underlying26 hi0 hz0 hz1 hz2 rfl (by omega) (.slice none 0 0) 0 [] rfl
         (own_nil w) B A1 xs.length c1 (ints xs) rfl (by simp [ints_len]) H1.out (ints_one _) (by simp only [maxLen]; omega) (by omega) hk ?_
       intro v1 w1 hown1 hg1 hat1
       have hb1 : Hid (Below w.heap.size w w1) := (Below.refl _ _).grown hg1 hk (by simp [Value.ownBlock])
       have ho1 := Lib.hid hown1
       have ht1 := Lib.hid hat1
       clear hown1 hg1 hat1)
    | (at_builtin
       refine wpList_append_row _ rfl (.tmp 11) (.tmp 12) _ rfl w.heap.size 3 i0 _ 1 8 Try.underlying26 hi0 hz0 hz1 hz2 rfl (by omega) v1 (0 + xs.length) ([] ++ ints xs) rfl
         ho1.out B A2 ys.length c2 (ints ys) rfl (by simp [ints_len]) (H2.out.below (hb1.out.mono hB)) (ints_one _) (by simp only [maxLen]; omega) (by omega) hb1.out.size ?_
       intro v2 w2 hown2 hg2 hat2
       have hb2 : Hid (Below w.heap.size w w2) := hb1.out.grown hg2 hb1.out.size (fun g hg => own_base ho1.out g hg)
       have ho2 := Lib.hid hown2
       clear hown2 hg2 hat2)
    | (at_builtin
       refine wpList_append_row _ rfl (.tmp 14) (.tmp 15) _ rfl w.heap.size 3 i0 _ 1 8 Try.underlying26 hi0 hz0 hz1 hz2 rfl (by omega) v2 (0 + xs.length + ys.length) ([] ++ ints xs ++ ints ys) rfl
         ho2.out B A3 zs.length c3 (ints zs) rfl (by simp [ints_len]) (H3.out.below (hb2.out.mono hB)) (ints_one _) (by simp only [maxLen]; omega) (by omega) hb2.out.size ?_
       intro v3 w3 hown3 hg3 hat3
       have hb3 : Hid (Below w.heap.size w w3) := hb2.out.grown hg3 hb2.out.size (fun g hg => own_base ho2.out g hg)
       have ho3 := Lib.hid hown3
       clear hown3 hg3 hat3))
  go_ret
  obtain ⟨A, c, hv, hc1, hc2, hr⟩ := own_row ho3.out
  have e1 : 0 + xs.length + ys.length + zs.length = (xs ++ ys ++ zs).length := by simp; omega
  rw [e1] at hv hc1
  refine ⟨A, c, by rw [← hv]; rfl, hc1, hc2, ?_, own_new (hv ▸ e1 ▸ ho3.out), hb3.out⟩
  rw [ints_append, ints_append]
  simpa using hr
set_option maxRecDepth 100000 in
set_option maxHeartbeats 1000000 in
theorem joined_any (A1 A2 A3 : Option Addr) (c1 c2 c3 B : Nat) (xs ys zs : List Int) (w : World) (h1 : Row w B A1 (ints xs)) (h2 : Row w B A2 (ints ys)) (h3 : Row w B A3 (ints zs)) (hB : B ≤ w.heap.size)
    (hl : xs.length + ys.length + zs.length ≤ 65536) :
    Calls Try.prog 66 #[.slice A1 xs.length c1, .slice A2 ys.length c2, .slice A3 zs.length c3] w (RetInts w (xs ++ ys ++ zs)) := by
  obtain ⟨i0, hi0, hz0, hz1, hz2⟩ := info_parts int_info
  have H1 := Lib.hid h1
  have H2 := Lib.hid h2
  have H3 := Lib.hid h3
  clear h1 h2 h3
  have hk : w.heap.size ≤ w.heap.size := Nat.le_refl _
  go_enter Try.func66, Try.ntmps66
  go_wp2_with (first
    | (at_make
       refine wpList_make_block _ rfl _ _ 26 rfl 3 i0 _ Try.underlying26 hi0 hz0 hz1 _ _ _ _ (xs.length + ys.length + zs.length) rfl rfl (by omega) (by omega) (by rw [hz2]; omega) (by simp only [maxLen]; omega) ?_
       intro w1 z hzl hz hlt1 hb1
       have HZ := Lib.hid hzl
       clear hzl))
  obtain ⟨w2, hrun, hg2, hb2⟩ := run_copy_into (P := Try.prog) (w := w1) 26 3 3 Try.underlying26 int_size w.heap.size 0 (some ⟨w.heap.size, 0, none⟩) (xs.length + ys.length + zs.length) (xs.length + ys.length + zs.length) (fun _ => rfl)
    B A1 xs.length c1 (ints xs) (ints_len _) (H1.out.below (hb1.out.mono hB)) (by omega) z hz.out (by rw [HZ.out]; omega) (ints_one _) w.heap.size w hb1.out hk
  have hl2 : (splice z 0 (ints xs)).length = xs.length + ys.length + zs.length := by rw [length_splice _ _ _ (by rw [ints_len, HZ.out]; omega), HZ.out]
  have HL2 := Lib.hid hl2
  rw [hrun]
  clear hrun hl2 hb1 hz hlt1
  go_wp2_with fail
  obtain ⟨w3, hrun, hg3, hb3⟩ := run_copy_into (P := Try.prog) (w := w2) 26 3 3 Try.underlying26 int_size w.heap.size xs.length (cutA (some ⟨w.heap.size, 0, none⟩) (xs.length + ys.length + zs.length) xs.length 1) (xs.length + ys.length + zs.length - xs.length) (xs.length + ys.length + zs.length - xs.length)
    (fun h => cutA_some0 (by omega))
    B A2 ys.length c2 (ints ys) (ints_len _) (H2.out.below (hb2.out.mono hB)) (by omega) _ hg2.out (by rw [HL2.out]; omega) (ints_one _) w.heap.size w hb2.out hk
  have HL3 : Hid ((splice (splice z 0 (ints xs)) xs.length (ints ys)).length = xs.length + ys.length + zs.length) := by
    show _ = _
    rw [length_splice _ _ _ (by rw [ints_len, HL2.out]; omega), HL2.out]
  rw [hrun]
  clear hrun hb2 hg2
  go_wp2_with fail
  obtain ⟨w4, hrun, hg4, hb4⟩ := run_copy_into (P := Try.prog) (w := w3) 26 3 3 Try.underlying26 int_size w.heap.size (xs.length + ys.length) (cutA (some ⟨w.heap.size, 0, none⟩) (xs.length + ys.length + zs.length) (xs.length + ys.length) 1) zs.length zs.length
    (fun h => cutA_some0 (by omega))
    B A3 zs.length c3 (ints zs) (ints_len _) (H3.out.below (hb3.out.mono hB)) (by omega) _ hg3.out (by rw [HL3.out]; omega) (ints_one _) w.heap.size w hb3.out hk
  rw [hrun]
  clear hrun hb3 hg3
  go_wp2_with fail
  go_ret
  have hfin := hg4.out
  have e3 : splice (splice (splice z 0 (ints xs)) xs.length (ints ys)) (xs.length + ys.length) (ints zs) = ints xs ++ ints ys ++ ints zs := by
    have := splice_three z (ints xs) (ints ys) (ints zs) (by rw [ints_len, ints_len, ints_len, HZ.out])
    rw [ints_len, ints_len] at this
    exact this
  rw [e3] at hfin
  refine ⟨some ⟨w.heap.size, 0, none⟩, xs.length + ys.length + zs.length, ?_, by simp; omega, by simp only [maxLen]; omega, ?_, NewAt.at_ (Nat.le_refl _), hb4.out⟩
  · simp [Nat.add_assoc]
  · rw [ints_append, ints_append]
    exact Row.of_block hfin (fun k v h => by simpa using h)
set_option maxRecDepth 100000 in
set_option maxHeartbeats 1000000 in
theorem clone_any (A1 : Option Addr) (c1 B : Nat) (xs : List Int) (w : World) (h1 : Row w B A1 (ints xs)) (hB : B ≤ w.heap.size) (hl : xs.length ≤ 65536) :
    Calls Try.prog 38 #[.slice A1 xs.length c1] w (RetInts w xs) := by
  obtain ⟨i0, hi0, hz0, hz1, hz2⟩ := info_parts int_info
  have H1 := Lib.hid h1
  cases A1 with
  | none =>
    have hx : xs = [] := Classical.byContradiction fun h => by
      obtain ⟨_, _, h', _⟩ := h1 (fun e => h (by simpa [ints] using e))
      cases h'
    subst hx
    have hnil := Lib.run_eql_slice_nil (P := Try.prog) w 26 3 none 0 c1 0 0 Try.underlying26
    go_enter Try.func38, Try.ntmps38
    go_wp2_with fail
    go_ret
    exact ⟨none, 0, rfl, Nat.le_refl _, by simp [maxLen], Row.nil, NewAt.none_, Below.refl _ _⟩
  | some ad =>
    have hnil := Lib.run_eql_slice_nil (P := Try.prog) w 26 3 (some ad) xs.length c1 0 0 Try.underlying26
    have hbs : ∀ W : World, (Instr.buildSlice 26 0 #[]).run Try.prog W = .ok (.slice (some ⟨W.heap.size, 0, none⟩) 0 0) (W.alloc (.cells #[] 3)) := fun W => by kernel_rfl
    clear h1
    go_enter Try.func38, Try.ntmps38
    go_wp2_with (first
      | (at_builtin
         refine wpList_append_row _ rfl (.tmp 5) (.tmp 6) _ rfl w.heap.size 3 i0 _ 1 8 Try.underlying26 hi0 hz0 hz1 hz2 rfl (by omega) (.slice (some ⟨w.heap.size, 0, none⟩) 0 0) 0 [] rfl
           ⟨by simp, .inr ⟨w.heap.size, 0, #[], rfl, Nat.le_refl _, heap_alloc_new _ _, by omega, by simp [maxLen], by simp, by simp⟩⟩ B (some ad) xs.length c1 (ints xs) rfl (by simp [ints_len]) (H1.out.below ((Below.refl _ _).alloc hB _)) (ints_one _) (by simp only [maxLen]; omega) (by omega) (by simp) ?_
         intro v1 w1 hown1 hg1 hat1
         have hb1 : Hid (Below w.heap.size w w1) := ((Below.refl _ _).alloc (Nat.le_refl _) _).grown hg1 (by simp) (by simp [Value.ownBlock])
         have ho1 := Lib.hid hown1
         clear hown1 hg1 hat1))
    go_ret
    obtain ⟨A, c, hv, hc1, hc2, hr⟩ := own_row ho1.out
    rw [Nat.zero_add] at hv hc1
    exact ⟨A, c, by rw [← hv]; rfl, hc1, hc2, by simpa using hr, own_new (hv ▸ (Nat.zero_add xs.length) ▸ ho1.out), hb1.out⟩
set_option maxRecDepth 100000 in
theorem join_n (A1 A2 A3 : Option Addr) (c1 c2 c3 B : Nat) (xs ys zs r : List Int) (w : World) (n1 n2 n3 : Nat) (e1 : xs.length = n1) (e2 : ys.length = n2) (e3 : zs.length = n3) (er : xs ++ ys ++ zs = r)
    (h1 : Row w B A1 (ints xs)) (h2 : Row w B A2 (ints ys)) (h3 : Row w B A3 (ints zs)) (hB : B ≤ w.heap.size) (hl : n1 + n2 + n3 ≤ 65536) :
    Calls Try.prog 68 #[.slice A1 n1 c1, .slice A2 n2 c2, .slice A3 n3 c3] w (RetInts w r) := by
  subst e1 e2 e3 er
  exact join_any A1 A2 A3 c1 c2 c3 B xs ys zs w h1 h2 h3 hB hl
set_option maxRecDepth 100000 in
theorem joined_n (A1 A2 A3 : Option Addr) (c1 c2 c3 B : Nat) (xs ys zs r : List Int) (w : World) (n1 n2 n3 : Nat) (e1 : xs.length = n1) (e2 : ys.length = n2) (e3 : zs.length = n3) (er : xs ++ ys ++ zs = r)
    (h1 : Row w B A1 (ints xs)) (h2 : Row w B A2 (ints ys)) (h3 : Row w B A3 (ints zs)) (hB : B ≤ w.heap.size) (hl : n1 + n2 + n3 ≤ 65536) :
    Calls Try.prog 66 #[.slice A1 n1 c1, .slice A2 n2 c2, .slice A3 n3 c3] w (RetInts w r) := by
  subst e1 e2 e3 er
  exact joined_any A1 A2 A3 c1 c2 c3 B xs ys zs w h1 h2 h3 hB hl
set_option maxRecDepth 100000 in
theorem clone_n (A1 : Option Addr) (c1 B : Nat) (xs : List Int) (w : World) (n1 : Nat) (e1 : xs.length = n1) (h1 : Row w B A1 (ints xs)) (hB : B ≤ w.heap.size) (hl : n1 ≤ 65536) :
    Calls Try.prog 38 #[.slice A1 n1 c1] w (RetInts w xs) := by
  subst e1
  exact clone_any A1 c1 B xs w h1 hB hl
end Go.Proofs.Ytkpblieanejmeaa
namespace Go.Proofs.Ytkpblieanejmeaa
open Go.RowKit Go.UtYtkpblieanejmeaa
attribute [local go_sem high] cut_l cut_lh cut_lhm cutA_zero
attribute [local go_sem 500] cut_any
def checkB (x y s : Int) : Int := if x < 0 ∨ y < 0 ∨ s < x ∨ wrap64 (s - x) < y then 1 else 0
/-- the call returns a list and a code -/
def RetInts2 (w : World) (xs : List Int) (code : Int) (e : Ending) (w' : World) : Prop :=
  ∃ A c, e = .returned (.tuple #[.slice A xs.length c, .int .i64 code]) ∧ xs.length ≤ c ∧ c ≤ maxLen ∧ Row w' w'.heap.size A (ints xs) ∧ NewAt w.heap.size A ∧ Below w.heap.size w w'
/-- the call returns an edit -/
def RetEdit (w : World) (x y : Int) (xs : List Int) (e : Ending) (w' : World) : Prop :=
  ∃ A c, e = .returned (.agg #[.int .i64 x, .int .i64 y, .slice A xs.length c]) ∧ xs.length ≤ c ∧ c ≤ maxLen ∧ Row w' w'.heap.size A (ints xs) ∧ NewAt w.heap.size A ∧ Below w.heap.size w w'
/-- the call returns an edit and a value beside it -/
def RetEdit2 (w : World) (x y : Int) (xs : List Int) (v : Value) (e : Ending) (w' : World) : Prop :=
  ∃ A c, e = .returned (.tuple #[.agg #[.int .i64 x, .int .i64 y, .slice A xs.length c], v]) ∧ xs.length ≤ c ∧ c ≤ maxLen ∧ Row w' w'.heap.size A (ints xs) ∧ NewAt w.heap.size A ∧ Below w.heap.size w w'
set_option maxRecDepth 100000 in
theorem box3 {w w1 : World} {a b c : Value} {t : TypeId} (hb : Below (w.alloc (.cells #[a, b, c] t)).heap.size (w.alloc (.cells #[a, b, c] t)) w1) :
    w1.cell? ⟨w.heap.size, 0, none⟩ = some a ∧ w1.cell? ⟨w.heap.size, 1, none⟩ = some b ∧ w1.cell? ⟨w.heap.size, 2, none⟩ = some c ∧ w.heap.size < w1.heap.size ∧ Below w.heap.size w w1 := by
  have hs : (w.alloc (.cells #[a, b, c] t)).heap.size = w.heap.size + 1 := by simp
  have hz := hb.size
  rw [hs] at hb hz
  have h : ∀ k, (w.alloc (.cells #[a, b, c] t)).cell? ⟨w.heap.size, k, none⟩ = #[a, b, c][k]? := fun k => by
    have e := heap_alloc_new w (.cells #[a, b, c] t)
    unfold World.cell?
    rw [e]
    rfl
  refine ⟨(hb.cell (p := ⟨w.heap.size, 0, none⟩) (by simp)).trans (h 0), (hb.cell (p := ⟨w.heap.size, 1, none⟩) (by simp)).trans (h 1), (hb.cell (p := ⟨w.heap.size, 2, none⟩) (by simp)).trans (h 2), by omega, ?_⟩
  exact ((Below.refl _ _).alloc (Nat.le_refl _) _).trans (hb.mono (by omega))
set_option maxRecDepth 100000 in
theorem check_any (x y s : Int) (A : Option Addr) (n c : Nat) (w : World) (v : Int) (hv : checkB x y s = v) :
    Calls Try.prog 65 #[.agg #[.int .i64 x, .int .i64 y, .slice A n c], .int .i64 s] w fun e w' => e = .returned (.int .i64 v) ∧ Below w.heap.size w w' := by
  have HV := Lib.hid hv
  clear hv
  go_enter Try.func65, Try.ntmps65
  go_wp2
  all_goals (go_ret; refine ⟨ret_int ?_, (Below.refl _ _).alloc (Nat.le_refl _) _⟩; rw [← HV.out]; unfold checkB)
  all_goals first | (rw [if_pos (by omega)]; done) | (rw [if_neg (by omega)])
set_option maxRecDepth 100000 in
theorem check2_any (x y s : Int) (A : Option Addr) (n c : Nat) (w : World) (v : Int) (hv : checkB x y s = v) :
    Calls Try.prog 67 #[.agg #[.int .i64 x, .int .i64 y, .slice A n c], .int .i64 s] w fun e w' => e = .returned (.int .i64 v) ∧ Below w.heap.size w w' := by
  have HV := Lib.hid hv
  clear hv
  go_enter Try.func67, Try.ntmps67
  go_wp2
  all_goals (go_ret; refine ⟨ret_int ?_, (Below.refl _ _).alloc (Nat.le_refl _) _⟩; rw [← HV.out]; unfold checkB)
  all_goals first | (rw [if_pos (by omega)]; done) | (rw [if_neg (by omega)])
set_option maxRecDepth 100000 in
theorem small_any (x y : Int) (A : Option Addr) (n c : Nat) (w : World) (v : Bool) (hv : decide ((n : Int) ≤ 40) = v) :
    Calls Try.prog 32 #[.agg #[.int .i64 x, .int .i64 y, .slice A n c]] w fun e w' => e = .returned (.bool v) ∧ Below w.heap.size w w' := by
  have HV := Lib.hid hv
  clear hv
  go_enter Try.func32, Try.ntmps32
  go_wp2
  go_ret
  exact ⟨ret_bool HV.out, (Below.refl _ _).alloc (Nat.le_refl _) _⟩
set_option maxRecDepth 100000 in
theorem checkB_ok {i d n : Nat} (h : i + d ≤ n) (hn : n ≤ 65536) : checkB (i : Int) (d : Int) (n : Int) = 0 := by
  have : wrap64 ((n : Int) - i) = n - i := IntWalk.wrap64_in _ ⟨by omega, by omega⟩
  unfold checkB
  rw [this, if_neg (by omega)]
set_option maxRecDepth 100000 in
/-- what Check does not refuse -/
theorem checkB_nat {x y : Int} {n : Nat} (hn : n ≤ 65536) (h : checkB x y n ≠ 1) : ∃ i d : Nat, x = i ∧ y = d ∧ i + d ≤ n := by
  unfold checkB at h
  split at h
  · exact absurd rfl h
  · rename_i h'
    have h1 : 0 ≤ x := by omega
    have h2 : x ≤ n := by omega
    have : wrap64 ((n : Int) - x) = n - x := IntWalk.wrap64_in _ ⟨by omega, by omega⟩
    rw [this] at h'
    exact ⟨x.toNat, y.toNat, by omega, by omega, by omega⟩
set_option maxRecDepth 100000 in
theorem checkB_one (x y s : Int) : checkB x y s = 1 ∨ checkB x y s = 0 := by
  unfold checkB; split <;> simp
set_option maxRecDepth 100000 in
set_option maxHeartbeats 1000000 in
theorem apply_ok (i d : Nat) (A T : Option Addr) (c tc B : Nat) (ins text r : List Int) (w : World) (hA : Row w B A (ints ins)) (hT : Row w B T (ints text)) (hB : B ≤ w.heap.size)
    (htc : text.length ≤ tc) (h : i + d ≤ text.length) (hl : text.length + ins.length ≤ 60000) (hr : text.take i ++ ins ++ text.drop (i + d) = r) :
    Calls Try.prog 42 #[.agg #[.int .i64 i, .int .i64 d, .slice A ins.length c], .slice T text.length tc] w (RetInts2 w r 0) := by
  have HRR := Lib.hid hr
  clear hr
  have HA := Lib.hid hA
  have HT := Lib.hid hT
  have HK := Lib.hid (checkB_ok h (by omega))
  clear hA hT
  have k0 : (0 : Int) ≤ (i : Int) := by omega
  have k1 : (i : Int) ≤ (tc : Int) := by omega
  have k2 : (0 : Int) ≤ (i : Int) + (d : Int) := by omega
  have k3 : (i : Int) + (d : Int) ≤ (text.length : Int) := by omega
  have k4 : IntKind.i64.wrap ((i : Int) + (d : Int)) = (i : Int) + (d : Int) := IntWalk.i64_in _ (by omega)
  have k5 : ((i : Int) + (d : Int)).toNat = i + d := by omega
  go_enter Try.func42, Try.ntmps42
  go_wp2_with fail
  refine (check_any _ _ _ _ _ _ _ _ HK.out).mono ?_
  rintro e w1 ⟨rfl, hb1⟩
  obtain ⟨hc0, hc1, hc2, hz1, hbw1⟩ := box3 hb1
  have HB1 := Lib.hid hbw1
  clear hb1 hbw1
  go_wp2_with fail
  go_region_held3 (fun w' => w'.cell? ⟨w.heap.size, 0, none⟩ = some (.int .i64 i) ∧ w'.cell? ⟨w.heap.size, 1, none⟩ = some (.int .i64 d) ∧ w'.cell? ⟨w.heap.size, 2, none⟩ = some (.slice A ins.length c))
    (first | go_keep | (go_split_ands; refine ⟨?_, ?_, ?_⟩ <;> (rw [Below.cell (by assumption) (by simp; omega)]; assumption)))
    (first | (go_at_call 66
              refine (joined_n _ _ _ _ _ _ B (text.take i) ins (text.drop (i + d)) r _ _ _ _ (by simp; omega) rfl (by simp) HRR.out (HT.out.init.below (HB1.out.mono hB).drew) (HA.out.below (HB1.out.mono hB).drew) ((HT.out.tail htc).below (HB1.out.mono hB).drew) (Nat.le_trans hB HB1.out.size) (by omega)).mono ?_
              rintro e w2 ⟨A', c', rfl, hl1, hl2, hr, hnw, hb2⟩))
  have HN := Lib.hid hnw
  have HR := Lib.hid hr
  have HL := Lib.hid hl1
  have HB2 := Lib.hid hb2
  clear hr hl1 hb2 hnw
  go_wp2
  go_ret2
  exact ⟨A', c', rfl, HL.out, hl2, HR.out, HN.out.mono HB1.out.size, below_then HB1.out.drew HB2.out (Nat.le_refl _)⟩
set_option maxRecDepth 100000 in
set_option maxHeartbeats 1000000 in
theorem apply2_ok (i d : Nat) (A T : Option Addr) (c tc B : Nat) (ins text r : List Int) (w : World) (hA : Row w B A (ints ins)) (hT : Row w B T (ints text)) (hB : B ≤ w.heap.size)
    (htc : text.length ≤ tc) (h : i + d ≤ text.length) (hl : text.length + ins.length ≤ 60000) (hr : text.take i ++ ins ++ text.drop (i + d) = r) :
    Calls Try.prog 43 #[.agg #[.int .i64 i, .int .i64 d, .slice A ins.length c], .slice T text.length tc] w (RetInts2 w r 0) := by
  have HRR := Lib.hid hr
  clear hr
  have HA := Lib.hid hA
  have HT := Lib.hid hT
  have HK := Lib.hid (checkB_ok h (by omega))
  clear hA hT
  have k0 : (0 : Int) ≤ (i : Int) := by omega
  have k1 : (i : Int) ≤ (tc : Int) := by omega
  have k2 : (0 : Int) ≤ (i : Int) + (d : Int) := by omega
  have k3 : (i : Int) + (d : Int) ≤ (text.length : Int) := by omega
  have k4 : IntKind.i64.wrap ((i : Int) + (d : Int)) = (i : Int) + (d : Int) := IntWalk.i64_in _ (by omega)
  have k5 : ((i : Int) + (d : Int)).toNat = i + d := by omega
  go_enter Try.func43, Try.ntmps43
  go_wp2_with fail
  refine (check2_any _ _ _ _ _ _ _ _ HK.out).mono ?_
  rintro e w1 ⟨rfl, hb1⟩
  obtain ⟨hc0, hc1, hc2, hz1, hbw1⟩ := box3 hb1
  have HB1 := Lib.hid hbw1
  clear hb1 hbw1
  go_wp2_with fail
  go_region_held3 (fun w' => w'.cell? ⟨w.heap.size, 0, none⟩ = some (.int .i64 i) ∧ w'.cell? ⟨w.heap.size, 1, none⟩ = some (.int .i64 d) ∧ w'.cell? ⟨w.heap.size, 2, none⟩ = some (.slice A ins.length c))
    (first | go_keep | (go_split_ands; refine ⟨?_, ?_, ?_⟩ <;> (rw [Below.cell (by assumption) (by simp; omega)]; assumption)))
    (first | (go_at_call 68
              refine (join_n _ _ _ _ _ _ B (text.take i) ins (text.drop (i + d)) r _ _ _ _ (by simp; omega) rfl (by simp) HRR.out (HT.out.init.below (HB1.out.mono hB).drew) (HA.out.below (HB1.out.mono hB).drew) ((HT.out.tail htc).below (HB1.out.mono hB).drew) (Nat.le_trans hB HB1.out.size) (by omega)).mono ?_
              rintro e w2 ⟨A', c', rfl, hl1, hl2, hr, hnw, hb2⟩))
  have HN := Lib.hid hnw
  have HR := Lib.hid hr
  have HL := Lib.hid hl1
  have HB2 := Lib.hid hb2
  clear hr hl1 hb2 hnw
  go_wp2
  go_ret2
  exact ⟨A', c', rfl, HL.out, hl2, HR.out, HN.out.mono HB1.out.size, below_then HB1.out.drew HB2.out (Nat.le_refl _)⟩

set_option maxRecDepth 100000 in
theorem apply_no (x y : Int) (A T : Option Addr) (n c tc k : Nat) (w : World) (h : checkB x y k = 1) :
    Calls Try.prog 42 #[.agg #[.int .i64 x, .int .i64 y, .slice A n c], .slice T k tc] w (RetInts2 w [] 1) := by
  have HK := Lib.hid h
  clear h
  go_enter Try.func42, Try.ntmps42
  go_wp2_with fail
  refine (check_any _ _ _ _ _ _ _ _ HK.out).mono ?_
  rintro e w1 ⟨rfl, hb1⟩
  obtain ⟨-, -, -, -, hbw1⟩ := box3 hb1
  have HB1 := Lib.hid hbw1
  clear hb1 hbw1
  go_wp2_with fail
  go_ret2
  exact ⟨none, 0, rfl, Nat.le_refl _, by simp [maxLen], Row.nil, NewAt.none_, HB1.out⟩

set_option maxRecDepth 100000 in
theorem apply2_no (x y : Int) (A T : Option Addr) (n c tc k : Nat) (w : World) (h : checkB x y k = 1) :
    Calls Try.prog 43 #[.agg #[.int .i64 x, .int .i64 y, .slice A n c], .slice T k tc] w (RetInts2 w [] 1) := by
  have HK := Lib.hid h
  clear h
  go_enter Try.func43, Try.ntmps43
  go_wp2_with fail
  refine (check2_any _ _ _ _ _ _ _ _ HK.out).mono ?_
  rintro e w1 ⟨rfl, hb1⟩
  obtain ⟨-, -, -, -, hbw1⟩ := box3 hb1
  have HB1 := Lib.hid hbw1
  clear hb1 hbw1
  go_wp2_with fail
  go_ret2
  exact ⟨none, 0, rfl, Nat.le_refl _, by simp [maxLen], Row.nil, NewAt.none_, HB1.out⟩
end Go.Proofs.Ytkpblieanejmeaa
namespace Go.Proofs.Ytkpblieanejmeaa
open Go.RowKit Go.UtYtkpblieanejmeaa
attribute [local go_sem high] cut_l cut_lh cut_lhm cutA_zero
attribute [local go_sem 500] cut_any
set_option maxRecDepth 100000 in
theorem box33 {w w1 : World} {a b c a' b' c' : Value} {t t' : TypeId} (hb : Below ((w.alloc (.cells #[a, b, c] t)).alloc (.cells #[a', b', c'] t')).heap.size ((w.alloc (.cells #[a, b, c] t)).alloc (.cells #[a', b', c'] t')) w1) :
    Blk w1 w.heap.size t #[a, b, c] ∧ Blk w1 (w.heap.size + 1) t' #[a', b', c'] ∧ Below w.heap.size w w1 := by
  have h1 := ((Blk.new w t #[a, b, c]).alloc (.cells #[a', b', c'] t')).after hb
  have h2 := (Blk.new (w.alloc (.cells #[a, b, c] t)) t' #[a', b', c']).after hb
  rw [show (w.alloc (.cells #[a, b, c] t)).heap.size = w.heap.size + 1 by simp] at h2
  exact ⟨h1, h2, (((Below.refl _ _).alloc (Nat.le_refl _) _).alloc (by simp) _).trans (hb.mono (by simp; omega))⟩
set_option maxRecDepth 100000 in
set_option maxHeartbeats 2000000 in
theorem invert_ok (i d : Nat) (A T : Option Addr) (n c tc B : Nat) (text r : List Int) (w : World) (hT : Row w B T (ints text)) (hB : B ≤ w.heap.size)
    (htc : text.length ≤ tc) (h : i + d ≤ text.length) (hl : text.length ≤ 60000) (hr : (text.drop i).take d = r) :
    Calls Try.prog 45 #[.agg #[.int .i64 i, .int .i64 d, .slice A n c], .slice T text.length tc] w (RetEdit2 w i n r (.int .i64 0)) := by
  have HRR := Lib.hid hr
  have HT := Lib.hid hT
  have HK := Lib.hid (checkB_ok h (by omega))
  have HLr : Hid (r.length = d) := by show _ = _; rw [← hr]; simp; omega
  have HM : Hid (∀ W, Below B w W → Row W B (cutA T (i + d) i 1) (ints r)) := by
    intro W hW
    rw [← hr]
    have := hT.mid (l := i) (m := i + d)
    rw [Nat.add_sub_cancel_left] at this
    exact this.below hW
  clear hT hr
  have k0 : (0 : Int) ≤ (i : Int) := by omega
  have k1 : (i : Int) ≤ (tc : Int) := by omega
  have k2 : (0 : Int) ≤ (i : Int) + (d : Int) := by omega
  have k3 : (i : Int) + (d : Int) ≤ (text.length : Int) := by omega
  have k3' : (i : Int) + (d : Int) ≤ (tc : Int) := by omega
  have k4 : IntKind.i64.wrap ((i : Int) + (d : Int)) = (i : Int) + (d : Int) := IntWalk.i64_in _ (by omega)
  have k5 : ((i : Int) + (d : Int)).toNat = i + d := by omega
  have k6 : (i : Int) ≤ (i : Int) + (d : Int) := by omega
  have k7 : i + d - i = d := by omega
  go_enter Try.func45, Try.ntmps45
  go_wp2_with fail
  refine (check_any _ _ _ _ _ _ _ _ HK.out).mono ?_
  rintro e w1 ⟨rfl, hb1⟩
  obtain ⟨hX, hY, hbw1⟩ := box33 hb1
  obtain ⟨hc0, hc1, hc2⟩ := hX.cells3
  have HX := Lib.hid hX
  have HY := Lib.hid hY
  have HB1 := Lib.hid hbw1
  have hz1 := hY.lt
  clear hb1 hbw1 hX hY
  go_wp2_with fail
  go_region_held3 (fun w' => w'.cell? ⟨w.heap.size, 0, none⟩ = some (.int .i64 i) ∧ w'.cell? ⟨w.heap.size, 1, none⟩ = some (.int .i64 d) ∧ w'.cell? ⟨w.heap.size, 2, none⟩ = some (.slice A n c))
    (first | go_keep | (go_split_ands; refine ⟨?_, ?_, ?_⟩ <;> (rw [Below.cell (by assumption) (by simp; omega)]; assumption)))
    (first | (go_at_call 38
              refine (clone_n _ _ B r _ _ HLr.out (HM.out _ (HB1.out.mono hB).drew) (Nat.le_trans hB HB1.out.size) (by omega)).mono ?_
              rintro e w2 ⟨A', c', rfl, hl1, hl2, hr, hnw, hb2⟩
              obtain ⟨hy0, hy1, hy2⟩ := (HY.out.after (undrew hb2)).cells3
              obtain ⟨hf0, hf1, hf2⟩ := (HY.out.after (undrew hb2)).free3))
  have HN := Lib.hid hnw
  have HR := Lib.hid hr
  have HL := Lib.hid hl1
  have HB2 := Lib.hid hb2
  have HY2 := Lib.hid (HY.out.after (undrew hb2))
  clear hr hl1 hb2 hnw
  go_wp2
  have hs := Nat.lt_of_lt_of_le (Nat.lt_of_succ_lt hz1) HB2.out.size
  refine bodyPost_ret (v := .tuple #[.agg #[.int .i64 i, .int .i64 n, .slice A' r.length c'], .int .i64 0]) ?_ rfl ?_
  · have HY3 := ((HY2.out.set_ 0 (.int .i64 i)).set_ 1 (.int .i64 n)).set_ 2 (.slice A' r.length c')
    obtain ⟨g0, g1, g2⟩ := HY3.cells3
    simp [results, Try.results45, go_sem, g0, g1, g2]
  · refine ⟨A', c', rfl, HL.out, hl2, ?_, HN.out.mono HB1.out.size, ?_⟩
    · exact (HR.out.far3 HN.out hz1 _ _ _).lt
    · exact below_set3 (below_then HB1.out.drew HB2.out (Nat.le_refl _)) (Nat.le_succ _) _ _ _
set_option maxRecDepth 100000 in
theorem invert_no (x y : Int) (A T : Option Addr) (n c tc k : Nat) (w : World) (h : checkB x y k = 1) :
    Calls Try.prog 45 #[.agg #[.int .i64 x, .int .i64 y, .slice A n c], .slice T k tc] w (RetEdit2 w 0 0 [] (.int .i64 1)) := by
  have HK := Lib.hid h
  clear h
  go_enter Try.func45, Try.ntmps45
  go_wp2_with fail
  refine (check_any _ _ _ _ _ _ _ _ HK.out).mono ?_
  rintro e w1 ⟨rfl, hb1⟩
  obtain ⟨hX, hY, hbw1⟩ := box33 hb1
  obtain ⟨hy0, hy1, hy2⟩ := hY.cells3
  obtain ⟨hf0, hf1, hf2⟩ := hY.free3
  have HY := Lib.hid hY
  have HB1 := Lib.hid hbw1
  clear hb1 hbw1 hX hY
  go_wp2_with fail
  refine bodyPost_ret (v := .tuple #[.agg #[.int .i64 0, .int .i64 0, .slice none 0 0], .int .i64 1]) ?_ rfl ?_
  · have HY3 := ((HY.out.set_ 0 (.int .i64 0)).set_ 1 (.int .i64 0)).set_ 2 (.slice none 0 0)
    obtain ⟨g0, g1, g2⟩ := HY3.cells3
    simp [results, Try.results45, go_sem, g0, g1, g2]
  · exact ⟨none, 0, rfl, Nat.le_refl _, by simp [maxLen], Row.nil, NewAt.none_, ((HB1.out.setCell (Nat.le_succ _) _).setCell (Nat.le_succ _) _).setCell (Nat.le_succ _) _⟩
end Go.Proofs.Ytkpblieanejmeaa
namespace Go.Proofs.Ytkpblieanejmeaa
open Go.RowKit Go.UtYtkpblieanejmeaa
/-- what Apply returns -/
def appZ (x y : Int) (ins text : List Int) : List Int × Int :=
  if checkB x y text.length = 1 then ([], 1) else (text.take x.toNat ++ ins ++ text.drop (x.toNat + y.toNat), 0)
/-- what Invert returns: At, Del, Ins and the code -/
def invZ (x y : Int) (n : Nat) (text : List Int) : Int × Int × List Int × Int :=
  if checkB x y text.length = 1 then (0, 0, [], 1) else (x, n, (text.drop x.toNat).take y.toNat, 0)
set_option maxRecDepth 100000 in
theorem apply_all (x y : Int) (A T : Option Addr) (c tc B : Nat) (ins text : List Int) (w : World) (hA : Row w B A (ints ins)) (hT : Row w B T (ints text)) (hB : B ≤ w.heap.size)
    (htc : text.length ≤ tc) (hl : text.length + ins.length ≤ 60000) (r : List Int) (code : Int) (hr : appZ x y ins text = (r, code)) :
    Calls Try.prog 42 #[.agg #[.int .i64 x, .int .i64 y, .slice A ins.length c], .slice T text.length tc] w (RetInts2 w r code) := by
  unfold appZ at hr
  by_cases h : checkB x y text.length = 1
  · rw [if_pos h, Prod.mk.injEq] at hr
    obtain ⟨rfl, rfl⟩ := hr
    exact apply_no x y A T ins.length c tc text.length w h
  · rw [if_neg h, Prod.mk.injEq] at hr
    obtain ⟨hr1, rfl⟩ := hr
    obtain ⟨i, d, rfl, rfl, hid⟩ := checkB_nat (by omega) h
    exact apply_ok i d A T c tc B ins text r w hA hT hB htc hid hl hr1
set_option maxRecDepth 100000 in
theorem apply2_all (x y : Int) (A T : Option Addr) (c tc B : Nat) (ins text : List Int) (w : World) (hA : Row w B A (ints ins)) (hT : Row w B T (ints text)) (hB : B ≤ w.heap.size)
    (htc : text.length ≤ tc) (hl : text.length + ins.length ≤ 60000) (r : List Int) (code : Int) (hr : appZ x y ins text = (r, code)) :
    Calls Try.prog 43 #[.agg #[.int .i64 x, .int .i64 y, .slice A ins.length c], .slice T text.length tc] w (RetInts2 w r code) := by
  unfold appZ at hr
  by_cases h : checkB x y text.length = 1
  · rw [if_pos h, Prod.mk.injEq] at hr
    obtain ⟨rfl, rfl⟩ := hr
    exact apply2_no x y A T ins.length c tc text.length w h
  · rw [if_neg h, Prod.mk.injEq] at hr
    obtain ⟨hr1, rfl⟩ := hr
    obtain ⟨i, d, rfl, rfl, hid⟩ := checkB_nat (by omega) h
    exact apply2_ok i d A T c tc B ins text r w hA hT hB htc hid hl hr1
set_option maxRecDepth 100000 in
theorem invert_all (x y : Int) (A T : Option Addr) (n c tc B : Nat) (text : List Int) (w : World) (hT : Row w B T (ints text)) (hB : B ≤ w.heap.size)
    (htc : text.length ≤ tc) (hl : text.length ≤ 60000) (u v : Int) (r : List Int) (code : Int) (hr : invZ x y n text = (u, v, r, code)) :
    Calls Try.prog 45 #[.agg #[.int .i64 x, .int .i64 y, .slice A n c], .slice T text.length tc] w (RetEdit2 w u v r (.int .i64 code)) := by
  unfold invZ at hr
  by_cases h : checkB x y text.length = 1
  · rw [if_pos h, Prod.mk.injEq, Prod.mk.injEq, Prod.mk.injEq] at hr
    obtain ⟨rfl, rfl, rfl, rfl⟩ := hr
    exact invert_no x y A T n c tc text.length w h
  · rw [if_neg h, Prod.mk.injEq, Prod.mk.injEq, Prod.mk.injEq] at hr
    obtain ⟨rfl, rfl, hr1, rfl⟩ := hr
    obtain ⟨i, d, rfl, rfl, hid⟩ := checkB_nat (by omega) h
    exact invert_ok i d A T n c tc B text r w hT hB htc hid hl hr1
end Go.Proofs.Ytkpblieanejmeaa
