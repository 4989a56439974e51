/-
  slices.Clone at four types (printed by ic0.py).
  incbreak.copied and the function inside it: a copy of an automaton, in memory of its own.
-/
import Derived.Test.YtkpblieanejmeaaBase
import Derived.Test.YtkpblieanejmeaaOwn
import Derived.Test.YtkpblieanejmeaaProg
import Derived.Laws.OwnMore
import Derived.Laws.Cover3
import Derived.Lib.SliceRun
import Derived.WalkKit
import Derived.OwnWalk
import Derived.Deep.QuietTactic
import Derived.BigQuiet
import Derived.KernelRfl
import Derived.Outline
import Derived.IntWalk
import Derived.Test.YtkpblieanejmeaaIb1
namespace Go.UtYtkpblieanejmeaa
open Go.RowKit
theorem own_mt (w : World) (t e : TypeId) (size : Nat) (h : t = e) : (w.alloc (.cells #[] t)).ownsRow w.heap.size e size (.slice (some ⟨w.heap.size, 0, none⟩) 0 0) 0 [] := by
  subst h
  exact ⟨by simp, .inr ⟨w.heap.size, 0, #[], rfl, Nat.le_refl _, heap_alloc_new w _, Nat.le_refl _, by simp [maxLen], by simp, by simp⟩⟩
/-- the call returns a copy, in memory of its own -/
def RetCl (e : TypeId) (size : Nat) (w : World) (n : Nat) (vs : List Value) (en : Ending) (w' : World) : Prop :=
  ∃ A' c', en = .returned (.slice A' n c') ∧ w'.ownsRow w.heap.size e size (.slice A' n c') n vs ∧ Below w.heap.size w w'
end Go.UtYtkpblieanejmeaa
namespace Go.Proofs.Ytkpblieanejmeaa
open Go.RowKit Go.UtYtkpblieanejmeaa
theorem int_inf : (Try.prog.info? 3).map (fun i => (i.zero, i.size, i.bytes)) = some (some (.int .i64 0), 1, 8) := by kernel_rfl
set_option maxRecDepth 8000 in
set_option maxHeartbeats 1000000 in
theorem clone_int (A : Option Addr) (n c : Nat) (vs : List Value) (w : World) (hR : Row w w.heap.size A vs) (hl : vs.length = n * 1) (h1 : ∀ u ∈ vs, u.oneCell' = true) (hn : n ≤ 1000000000) :
    Calls Try.prog 38 #[.slice A n c] w (RetCl 3 1 w n vs) := by
  have HR := Lib.hid hR
  have HL := Lib.hid hl
  have H1 := Lib.hid h1
  clear hR hl h1
  obtain ⟨i0, hi0, hz0, hz1, hz2⟩ := info_parts int_inf
  cases A with
  | none =>
    have hv : vs = [] := Classical.byContradiction fun h => by
      obtain ⟨_, _, h', _⟩ := HR.out h
      cases h'
    have hn0 : n = 0 := by
      have := HL.out
      rw [hv] at this
      simp at this
      omega
    subst hn0
    subst hv
    have hnil := Lib.run_eql_slice_nil (P := Try.prog) w 26 3 none 0 c 0 0 Try.underlying26
    go_enter Try.func38, Try.ntmps38
    go_wp2
    go_ret
    exact ⟨none, 0, rfl, own_nil w, Below.refl _ _⟩
  | some a =>
    have hnil := Lib.run_eql_slice_nil (P := Try.prog) w 26 3 (some a) n c 0 0 Try.underlying26
    go_enter Try.func38, Try.ntmps38
    go_wp2_with (first
      | (at_builtin
         refine wpList_append_row _ rfl (.tmp 5) (.tmp 6) _ rfl w.heap.size 3 i0 _ 1 8 Try.underlying26 hi0 hz0 hz1 hz2 rfl (by omega) (.slice (some ⟨w.heap.size, 0, none⟩) 0 0) 0 [] rfl (own_mt w _ _ _ rfl) _ _ n c vs rfl HL.out (HR.out.below ((Below.refl _ _).alloc (Nat.le_refl _) _)) H1.out (by simp only [maxLen]; omega) (by omega) (by simp) ?_
         intro q4 w4 o4 g4 t4
         rw [Nat.zero_add, List.nil_append] at o4
         obtain ⟨A4, c4, rfl⟩ := ow_slice (m := n) o4 rfl
         have HB4 : Hid (Below w.heap.size w w4) := ((Below.refl _ _).alloc (Nat.le_refl _) _).grown g4 (by simp) (fun g hg => by simp [Value.ownBlock] at hg; omega)
         have HO4 := Lib.hid o4
         clear o4 g4 t4))
    go_ret
    exact ⟨A4, c4, rfl, HO4.out, HB4.out⟩
theorem str_inf : (Try.prog.info? 9).map (fun i => (i.zero, i.size, i.bytes)) = some (some (.string ByteArray.empty), 1, 16) := by kernel_rfl
set_option maxRecDepth 8000 in
set_option maxHeartbeats 1000000 in
theorem clone_str (A : Option Addr) (n c : Nat) (vs : List Value) (w : World) (hR : Row w w.heap.size A vs) (hl : vs.length = n * 1) (h1 : ∀ u ∈ vs, u.oneCell' = true) (hn : n ≤ 1000000000) :
    Calls Try.prog 36 #[.slice A n c] w (RetCl 9 1 w n vs) := by
  have HR := Lib.hid hR
  have HL := Lib.hid hl
  have H1 := Lib.hid h1
  clear hR hl h1
  obtain ⟨i0, hi0, hz0, hz1, hz2⟩ := info_parts str_inf
  cases A with
  | none =>
    have hv : vs = [] := Classical.byContradiction fun h => by
      obtain ⟨_, _, h', _⟩ := HR.out h
      cases h'
    have hn0 : n = 0 := by
      have := HL.out
      rw [hv] at this
      simp at this
      omega
    subst hn0
    subst hv
    have hnil := Lib.run_eql_slice_nil (P := Try.prog) w 22 9 none 0 c 0 0 Try.underlying22
    go_enter Try.func36, Try.ntmps36
    go_wp2
    go_ret
    exact ⟨none, 0, rfl, own_nil w, Below.refl _ _⟩
  | some a =>
    have hnil := Lib.run_eql_slice_nil (P := Try.prog) w 22 9 (some a) n c 0 0 Try.underlying22
    go_enter Try.func36, Try.ntmps36
    go_wp2_with (first
      | (at_builtin
         refine wpList_append_row _ rfl (.tmp 5) (.tmp 6) _ rfl w.heap.size 9 i0 _ 1 16 Try.underlying22 hi0 hz0 hz1 hz2 rfl (by omega) (.slice (some ⟨w.heap.size, 0, none⟩) 0 0) 0 [] rfl (own_mt w _ _ _ rfl) _ _ n c vs rfl HL.out (HR.out.below ((Below.refl _ _).alloc (Nat.le_refl _) _)) H1.out (by simp only [maxLen]; omega) (by omega) (by simp) ?_
         intro q4 w4 o4 g4 t4
         rw [Nat.zero_add, List.nil_append] at o4
         obtain ⟨A4, c4, rfl⟩ := ow_slice (m := n) o4 rfl
         have HB4 : Hid (Below w.heap.size w w4) := ((Below.refl _ _).alloc (Nat.le_refl _) _).grown g4 (by simp) (fun g hg => by simp [Value.ownBlock] at hg; omega)
         have HO4 := Lib.hid o4
         clear o4 g4 t4))
    go_ret
    exact ⟨A4, c4, rfl, HO4.out, HB4.out⟩
theorem spn_inf : (Try.prog.info? 77).map (fun i => (i.zero, i.size, i.bytes)) = some (some (.agg #[.int .i64 0, .int .i64 0, .int .i64 0]), 3, 24) := by kernel_rfl
set_option maxRecDepth 8000 in
set_option maxHeartbeats 1000000 in
theorem clone_spn (A : Option Addr) (n c : Nat) (vs : List Value) (w : World) (hR : Row w w.heap.size A vs) (hl : vs.length = n * 3) (h1 : ∀ u ∈ vs, u.oneCell' = true) (hn : n ≤ 1000000000) :
    Calls Try.prog 37 #[.slice A n c] w (RetCl 77 3 w n vs) := by
  have HR := Lib.hid hR
  have HL := Lib.hid hl
  have H1 := Lib.hid h1
  clear hR hl h1
  obtain ⟨i0, hi0, hz0, hz1, hz2⟩ := info_parts spn_inf
  cases A with
  | none =>
    have hv : vs = [] := Classical.byContradiction fun h => by
      obtain ⟨_, _, h', _⟩ := HR.out h
      cases h'
    have hn0 : n = 0 := by
      have := HL.out
      rw [hv] at this
      simp at this
      omega
    subst hn0
    subst hv
    have hnil := Lib.run_eql_slice_nil (P := Try.prog) w 23 77 none 0 c 0 0 Try.underlying23
    go_enter Try.func37, Try.ntmps37
    go_wp2
    go_ret
    exact ⟨none, 0, rfl, own_nil w, Below.refl _ _⟩
  | some a =>
    have hnil := Lib.run_eql_slice_nil (P := Try.prog) w 23 77 (some a) n c 0 0 Try.underlying23
    go_enter Try.func37, Try.ntmps37
    go_wp2_with (first
      | (at_builtin
         refine wpList_append_row _ rfl (.tmp 5) (.tmp 6) _ rfl w.heap.size 77 i0 _ 3 24 Try.underlying23 hi0 hz0 hz1 hz2 rfl (by omega) (.slice (some ⟨w.heap.size, 0, none⟩) 0 0) 0 [] rfl (own_mt w _ _ _ rfl) _ _ n c vs rfl HL.out (HR.out.below ((Below.refl _ _).alloc (Nat.le_refl _) _)) H1.out (by simp only [maxLen]; omega) (by omega) (by simp) ?_
         intro q4 w4 o4 g4 t4
         rw [Nat.zero_add, List.nil_append] at o4
         obtain ⟨A4, c4, rfl⟩ := ow_slice (m := n) o4 rfl
         have HB4 : Hid (Below w.heap.size w w4) := ((Below.refl _ _).alloc (Nat.le_refl _) _).grown g4 (by simp) (fun g hg => by simp [Value.ownBlock] at hg; omega)
         have HO4 := Lib.hid o4
         clear o4 g4 t4))
    go_ret
    exact ⟨A4, c4, rfl, HO4.out, HB4.out⟩
theorem ints_inf : (Try.prog.info? 26).map (fun i => (i.zero, i.size, i.bytes)) = some (some (.slice none 0 0), 1, 24) := by kernel_rfl
set_option maxRecDepth 8000 in
set_option maxHeartbeats 1000000 in
theorem clone_ints (A : Option Addr) (n c : Nat) (vs : List Value) (w : World) (hR : Row w w.heap.size A vs) (hl : vs.length = n * 1) (h1 : ∀ u ∈ vs, u.oneCell' = true) (hn : n ≤ 1000000000) :
    Calls Try.prog 63 #[.slice A n c] w (RetCl 26 1 w n vs) := by
  have HR := Lib.hid hR
  have HL := Lib.hid hl
  have H1 := Lib.hid h1
  clear hR hl h1
  obtain ⟨i0, hi0, hz0, hz1, hz2⟩ := info_parts ints_inf
  cases A with
  | none =>
    have hv : vs = [] := Classical.byContradiction fun h => by
      obtain ⟨_, _, h', _⟩ := HR.out h
      cases h'
    have hn0 : n = 0 := by
      have := HL.out
      rw [hv] at this
      simp at this
      omega
    subst hn0
    subst hv
    have hnil := Lib.run_eql_slice_nil (P := Try.prog) w 27 26 none 0 c 0 0 Try.underlying27
    go_enter Try.func63, Try.ntmps63
    go_wp2
    go_ret
    exact ⟨none, 0, rfl, own_nil w, Below.refl _ _⟩
  | some a =>
    have hnil := Lib.run_eql_slice_nil (P := Try.prog) w 27 26 (some a) n c 0 0 Try.underlying27
    go_enter Try.func63, Try.ntmps63
    go_wp2_with (first
      | (at_builtin
         refine wpList_append_row _ rfl (.tmp 5) (.tmp 6) _ rfl w.heap.size 26 i0 _ 1 24 Try.underlying27 hi0 hz0 hz1 hz2 rfl (by omega) (.slice (some ⟨w.heap.size, 0, none⟩) 0 0) 0 [] rfl (own_mt w _ _ _ rfl) _ _ n c vs rfl HL.out (HR.out.below ((Below.refl _ _).alloc (Nat.le_refl _) _)) H1.out (by simp only [maxLen]; omega) (by omega) (by simp) ?_
         intro q4 w4 o4 g4 t4
         rw [Nat.zero_add, List.nil_append] at o4
         obtain ⟨A4, c4, rfl⟩ := ow_slice (m := n) o4 rfl
         have HB4 : Hid (Below w.heap.size w w4) := ((Below.refl _ _).alloc (Nat.le_refl _) _).grown g4 (by simp) (fun g hg => by simp [Value.ownBlock] at hg; omega)
         have HO4 := Lib.hid o4
         clear o4 g4 t4))
    go_ret
    exact ⟨A4, c4, rfl, HO4.out, HB4.out⟩
end Go.Proofs.Ytkpblieanejmeaa
namespace Go.UtYtkpblieanejmeaa
open Go.RowKit
/-- rows, one in a cell each -/
def EltR (w : World) (B : Nat) (us : List Value) (xss : List (List Int)) : Prop :=
  us.length = xss.length ∧ ∀ (k : Nat) (xs : List Int), xss[k]? = some xs → ∃ A' c', us[k]? = some (.slice A' xs.length c') ∧ xs.length ≤ c' ∧ c' ≤ maxLen ∧ Row w B A' (ints xs)
theorem EltR.keep {w w' : World} {B B' : Nat} {us : List Value} {xss : List (List Int)} (h : EltR w B us xss) (hR : ∀ (A : Option Addr) (vs : List Value), Row w B A vs → Row w' B' A vs) : EltR w' B' us xss :=
  ⟨h.1, fun k xs hk => by
    obtain ⟨A', c', h1, h2, h3, h4⟩ := h.2 k xs hk
    exact ⟨A', c', h1, h2, h3, hR _ _ h4⟩⟩
theorem EltR.set {w : World} {B : Nat} {us : List Value} {xss : List (List Int)} (h : EltR w B us xss) {k : Nat} {xs : List Int} (hk : xss[k]? = some xs) {A : Option Addr} {c : Nat} (h1 : xs.length ≤ c) (h2 : c ≤ maxLen) (h3 : Row w B A (ints xs)) : EltR w B (us.set k (.slice A xs.length c)) xss :=
  ⟨by rw [List.length_set]; exact h.1, fun j ys hj => by
    have hl := (List.getElem?_eq_some_iff.1 hj).1
    by_cases e : k = j
    · subst e
      rw [hk] at hj
      injection hj with hj
      subst hj
      exact ⟨A, c, by rw [List.getElem?_set_self (by rw [h.1]; exact hl)], h1, h2, h3⟩
    · obtain ⟨A', c', g1, g2⟩ := h.2 j ys hj
      exact ⟨A', c', by rw [List.getElem?_set_ne e]; exact g1, g2⟩⟩
theorem EltR.one {w : World} {B : Nat} {us : List Value} {xss : List (List Int)} (h : EltR w B us xss) : ∀ u ∈ us, u.oneCell' = true := by
  intro u hu
  obtain ⟨k, hk, e⟩ := List.getElem_of_mem hu
  obtain ⟨A', c', g1, g2⟩ := h.2 k _ (List.getElem?_eq_getElem (by rw [← h.1]; exact hk))
  rw [List.getElem?_eq_getElem hk, e] at g1
  injection g1 with g1
  rw [g1]
  rfl
theorem Rows2.elt {w : World} {B : Nat} {A : Option Addr} {xss : List (List Int)} (h : Rows2 w B A xss) : ∃ us, Row w B A us ∧ EltR w B us xss := by
  obtain ⟨vs, h1, h2, h3⟩ := h
  exact ⟨vs, h2, h1, h3⟩
/-- the block of a row, too -/
def OwnF (E : Nat → Prop) (v : Value) : Nat → Prop := fun b => E b ∨ v.ownBlock = some b
/-- the call returns rows that read as xss, apart from the blocks of E -/
def RetRs (E : Nat → Prop) (w : World) (n : Nat) (xss : List (List Int)) (e : Ending) (w' : World) : Prop :=
  ∃ A c, e = .returned (.slice A n c) ∧ n ≤ c ∧ c ≤ maxLen ∧ Rows2 (era w' E) w'.heap.size A xss ∧ Below w.heap.size w w'
end Go.UtYtkpblieanejmeaa
namespace Go.Proofs.Ytkpblieanejmeaa
open Go.RowKit Go.UtYtkpblieanejmeaa
set_option maxRecDepth 100000 in
set_option maxHeartbeats 2000000 in
theorem lists_any (E : Nat → Prop) (A : Option Addr) (n c : Nat) (xss : List (List Int)) (w : World) (he : ∀ b, E b → b < w.heap.size) (h : Rows2 (era w E) w.heap.size A xss) (hn : xss.length = n) (hn2 : n ≤ 1000000) (hx : ∀ xs ∈ xss, xs.length ≤ 1000000) :
    Calls Try.prog 62 #[.slice A n c] w (RetRs E w n xss) := by
  obtain ⟨us, hR, hE⟩ := h.elt
  have hul : us.length = n := hE.1.trans hn
  have HC := Lib.hid (clone_ints A n c us w hR.of_era (by omega) hE.one (by omega))
  unfold RetCl at HC
  have HN := Lib.hid hn
  have HX := Lib.hid hx
  have HE := Lib.hid hE
  have HUL := Lib.hid hul
  have HEE := Lib.hid he
  clear h hn hx hE hR hul he
  go_enter Try.func62, Try.ntmps62
  go_wp2_with (first
    | (go_at_call 63
       refine HC.out.mono ?_
       rintro e w1 ⟨A1, c1, rfl, ho1, hb1⟩))
  have HO1 := Lib.hid ho1
  have HB1 := Lib.hid hb1
  have HI1 : Hid (EltR (era w1 (OwnF E (.slice A1 n c1))) w1.heap.size us xss) := Lib.hid (HE.out.keep (fun A vs h => (h.era_keep (E' := OwnF E (.slice A1 n c1)) (fun b hb _ => hb1.block b hb) (fun b hb h => h.elim id (fun h => by have := own_base ho1 b h; omega))).more hb1.size))
  clear ho1 hb1 HC
  go_loopw [8] (fun i wr => ∃ (k : Nat) (vs : List Value), k ≤ n ∧ i = .int .i64 (k : Int) ∧ Hid (wr.ownsRow w.heap.size 26 1 (.slice A1 n c1) n vs) ∧ Hid (EltR (era wr (OwnF E (.slice A1 n c1))) wr.heap.size vs xss) ∧ Hid (Below w.heap.size w wr)) (fun i _ => n - (intOf i).toNat)
  case atStart => exact ⟨0, us, by omega, rfl, HO1, HI1, HB1⟩
  case round =>
    obtain ⟨k, vs, hk, rfl, HO, HI, HB⟩ := hrel
    by_cases hkn : k < n
    · obtain ⟨xs, hxs⟩ : ∃ xs, xss[k]? = some xs := ⟨_, List.getElem?_eq_getElem (by rw [HN.out]; exact hkn)⟩
      obtain ⟨A', c', g1, g2, g3, g4⟩ := HI.out.2 k xs hxs
      have hxm := HX.out xs (List.mem_of_getElem? hxs)
      obtain ⟨g, hA1⟩ : ∃ g, A1 = some ⟨g, 0, none⟩ := by
        rcases HO.out.2 with ⟨e1, e2⟩ | ⟨g, cap, cur, e1, _⟩
        · omega
        · injection e1 with e1
          exact ⟨g, e1⟩
      subst hA1
      have hcell := (HO.out.cellAt k (by omega)).trans g1
      have hgl : g < wr.heap.size := World.block_lt_of_cell? wr _ hcell
      obtain ⟨m, hm⟩ : ∃ m, xs.length = m := ⟨_, rfl⟩
      have CL := Lib.hid (clone_int A' m c' (ints xs) wr g4.of_era (by rw [ints_len, hm]; omega) (ints_one _) (by omega))
      unfold RetCl at CL
      rw [hm] at hcell
      have HXS := Lib.hid hxs
      have HM := Lib.hid hm
      clear hxs g1 g2 g3 g4 hm hxm
      go_wp2_with (first
        | (go_at_call 38
           refine CL.out.mono ?_
           rintro e w4 ⟨A4, c4, rfl, ho4, hb4⟩
           have HO4 := Lib.hid (ow_below HO.out hb4)
           have hcell4 : w4.cell? ⟨g, k, none⟩ = some (.slice A' m c') := (hb4.cell (p := ⟨g, k, none⟩) hgl).trans hcell
           have hfz4 := HO4.out.frozenAt k
           have hgl4 : g < w4.heap.size := by have := hb4.size; omega
           obtain ⟨w5, hw5, HO5, HI5, HB5⟩ : ∃ z, z = w4.setCell ⟨g, k, none⟩ (.slice A4 m c4) ∧ Hid (z.ownsRow w.heap.size 26 1 (.slice (some ⟨g, 0, none⟩) n c1) n (vs.set k (.slice A4 m c4))) ∧ Hid (EltR (era z (OwnF E (.slice (some ⟨g, 0, none⟩) n c1))) z.heap.size (vs.set k (.slice A4 m c4)) xss) ∧ Hid (Below w.heap.size w z) := by
             have hgw : w.heap.size ≤ g := own_base HO.out g rfl
             refine ⟨_, rfl, Lib.hid (HO4.out.stored k _).1, Lib.hid ?_, Lib.hid ((HB.out.trans (hb4.mono HB.out.size)).setCell (p := ⟨g, k, none⟩) hgw _)⟩
             have hsz : (w4.setCell ⟨g, k, none⟩ (.slice A4 m c4)).heap.size = w4.heap.size := by simp [World.setCell]
             rw [hsz]
             have hI4 : EltR (era w4 (OwnF E (.slice (some ⟨g, 0, none⟩) n c1))) w4.heap.size vs xss := HI.out.keep (fun _ _ h => (h.era_keep (fun b hb _ => hb4.block b hb) (fun _ _ h => h)).more hb4.size)
             have hI5 : EltR (era (w4.setCell ⟨g, k, none⟩ (.slice A4 m c4)) (OwnF E (.slice (some ⟨g, 0, none⟩) n c1))) w4.heap.size vs xss := hI4.keep (fun _ _ h => h.era_keep (fun b hb hE => Below.heap_setCell _ _ _ b (fun e => hE (.inr (by rw [e]; rfl)))) (fun _ _ h => h))
             obtain ⟨r1, r2, r3⟩ := ow_row ho4
             have hr5 := (r1.far (own_new ho4) (p := ⟨g, k, none⟩) hgl (.slice A4 m c4)).era_new (E := OwnF E (.slice (some ⟨g, 0, none⟩) n c1)) (own_new ho4) (fun b hb => by
               rcases hb with hb | hb
               · have := HEE.out b hb
                 have := HB.out.size
                 omega
               · simp [Value.ownBlock] at hb
                 omega)
             have := hI5.set HXS.out (A := A4) (c := c4) (by rw [HM.out]; exact r2) r3 hr5
             rwa [HM.out] at this
           clear ho4 hb4 HO4 CL))
      rw [← hw5]
      clear hw5
      go_roundw
      case rel => exact ⟨k + 1, vs.set k (.slice A4 m c4), by omega, by go_num, HO5, HI5, HB5⟩
      case measure => simp [intOf] <;> omega
    · go_wp2
      go_ret
      obtain ⟨r1, r2, r3⟩ := ow_row HO.out
      refine ⟨A1, c1, rfl, r2, r3, ⟨vs, HI.out.1, ow_era HO.out (fun b hb hb' => ?_), (HI.out.keep (fun _ _ h => h.era_keep (fun _ _ _ => rfl) (fun _ _ h => .inl h))).2⟩, HB.out⟩
      have h1 := HEE.out b hb'
      have h2 := own_base HO.out b hb
      omega
/-- the call returns an automaton -/
def RetAu (w : World) (n m : Nat) (nx mk : List (List Int)) (e : Ending) (w' : World) : Prop :=
  ∃ A1 c1 A2 c2, e = .returned (.agg #[.slice A1 n c1, .slice A2 m c2]) ∧ AutAt w' w'.heap.size A1 c1 A2 c2 nx mk ∧ Below w.heap.size w w'
set_option maxRecDepth 100000 in
set_option maxHeartbeats 2000000 in
theorem copied_any (A A' : Option Addr) (n c m c' : Nat) (nx mk : List (List Int)) (w : World) (h : AutAt w w.heap.size A c A' c' nx mk) (hn : nx.length = n) (hm : mk.length = m) (hn2 : n ≤ 1000000) (hm2 : m ≤ 1000000) (hx : ∀ xs ∈ nx, xs.length ≤ 1000000) (hy : ∀ xs ∈ mk, xs.length ≤ 1000000) :
    Calls Try.prog 39 #[.agg #[.slice A n c, .slice A' m c']] w (RetAu w n m nx mk) := by
  have C1 := Lib.hid (fun (u : World) (hu : Below w.heap.size w u) (E : Nat → Prop) (hE' : ∀ b, E b → w.heap.size ≤ b) (hEu : ∀ b, E b → b < u.heap.size) => lists_any E A n c nx u hEu (((h.1.1.below hu).era_below hE').more hu.size) hn hn2 hx)
  have C2 := Lib.hid (fun (u : World) (hu : Below w.heap.size w u) (E : Nat → Prop) (hE' : ∀ b, E b → w.heap.size ≤ b) (hEu : ∀ b, E b → b < u.heap.size) => lists_any E A' m c' mk u hEu (((h.2.1.below hu).era_below hE').more hu.size) hm hm2 hy)
  unfold RetRs at C1 C2
  obtain ⟨w1, hw1, HB1, HK1⟩ := boxV w 29 #[.slice A n c, .slice A' m c']
  obtain ⟨w2, hw2, HB2', HK2'⟩ := boxV w1 29 #[.slice none 0 0, .slice none 0 0]
  have HB2 := Lib.hid (HB1.out.trans (HB2'.out.mono HB1.out.size))
  have HK2 := Lib.hid (HK1.out.after HB2'.out)
  have hs1 : w1.heap.size = w.heap.size + 1 := by rw [hw1]; simp
  obtain ⟨g, hg⟩ : ∃ g, g = w1.heap.size := ⟨_, rfl⟩
  rw [← hg] at HK2'
  have hgw : g = w.heap.size + 1 := by omega
  have HN := Lib.hid hn
  have HM := Lib.hid hm
  clear h hn hm hx hy
  go_enter Try.func39, Try.ntmps39
  go_upto_region 2 with fail
  rw [← hw1, ← hw2, ← hgw]
  have HGW := Lib.hid hgw
  clear hw1 hw2 hs1 hg hgw
  refine wp_region_tree (fun w' => Blk w' w.heap.size 29 #[.slice A n c, .slice A' m c']) (.float 0 (.float 1 (.float 2 (.float 4 (.float 5 (.float 6 (.one 3 (.one 7 (.float 8 (.one 9 .done)))))))))) (by kernel_rfl) (by kernel_rfl) (fun _ _ d _ _ h => by cases d <;> exact h) HK2.out.drew ?_
  repeat (first
    | (refine wpTr_fskip (by simp only [List.getElem?_toArray, List.getElem?_cons_zero, List.getElem?_cons_succ]; rfl) (by rfl) ?_
       simp only [Act.put, List.setIfInBounds_toArray, List.set_cons_zero, List.set_cons_succ])
    | (refine wpTr_float (v := ?_) (by simp only [List.getElem?_toArray, List.getElem?_cons_zero, List.getElem?_cons_succ]; rfl) (by rfl) (fun w' hS => ?_) ?_
       rotate_left
       ((obtain ⟨a0', a1', al'⟩ := blk2 hS); go_simp; first | done | rfl)
       simp only [Act.put, List.setIfInBounds_toArray, List.set_cons_zero, List.set_cons_succ]))
  refine wpTr_one ?_
  refine stepTr_K (by simp only [List.getElem?_toArray, List.getElem?_cons_zero, List.getElem?_cons_succ]; rfl) (by rfl) (fun K hK => ?_)
  go_simp
  refine (C1.out w2.drew HB2.out.drew (· = g) (fun b hb => by rw [hb, HGW.out]; omega) (fun b hb => by rw [hb]; exact HK2'.out.lt)).mono ?_
  rintro e w3 ⟨A3, c3, rfl, g1, g2, hr3, hb3⟩
  have HBL3 : Hid (Below w2.heap.size w2 w3) := (Below.refl _ _).drew.trans hb3
  have HB3 := Lib.hid (HB2.out.trans (HBL3.out.mono HB2.out.size))
  have HK3 := Lib.hid (HK2.out.after HBL3.out)
  have HK3' := Lib.hid (HK2'.out.after HBL3.out)
  have HR3 := Lib.hid (And.intro hr3 (And.intro g1 g2))
  refine hK.out _ _ HK3.out ?_
  clear hK K g1 g2 hr3 hb3
  try simp only [Act.put, List.setIfInBounds_toArray, List.set_cons_zero, List.set_cons_succ]
  refine wpTr_one ?_
  refine stepTr_K (by simp only [List.getElem?_toArray, List.getElem?_cons_zero, List.getElem?_cons_succ]; rfl) (by rfl) (fun K hK => ?_)
  go_simp
  refine (C2.out w3 HB3.out (· = g) (fun b hb => by rw [hb, HGW.out]; omega) (fun b hb => by rw [hb]; exact HK3'.out.lt)).mono ?_
  rintro e w4 ⟨A4, c4, rfl, g1, g2, hr4, hb4⟩
  have HB4 := Lib.hid (HB3.out.trans (hb4.mono HB3.out.size))
  have HK4 := Lib.hid (HK3.out.after hb4)
  have HK4' := Lib.hid (HK3'.out.after hb4)
  have HR4 := Lib.hid (And.intro hr4 (And.intro g1 g2))
  have HR3' := Lib.hid ((HR3.out.1.era_keep (E' := (· = g)) (fun b hb _ => hb4.block b hb) (fun _ _ h => h)).more hb4.size)
  refine hK.out _ _ HK4.out ?_
  clear hK K g1 g2 hr4 hb4
  try simp only [Act.put, List.setIfInBounds_toArray, List.set_cons_zero, List.set_cons_succ]
  repeat (first
    | (refine wpTr_fskip (by simp only [List.getElem?_toArray, List.getElem?_cons_zero, List.getElem?_cons_succ]; rfl) (by rfl) ?_
       simp only [Act.put, List.setIfInBounds_toArray, List.set_cons_zero, List.set_cons_succ])
    | (refine wpTr_float (v := ?_) (by simp only [List.getElem?_toArray, List.getElem?_cons_zero, List.getElem?_cons_succ]; rfl) (by rfl) (fun w' hS => ?_) ?_
       rotate_left
       ((skip); go_simp; first | done | rfl)
       simp only [Act.put, List.setIfInBounds_toArray, List.set_cons_zero, List.set_cons_succ]))
  obtain ⟨b0, b1, bl⟩ := blk2 HK4'.out
  have f0 := HK4'.out.free 0
  have f1 := HK4'.out.free 1
  obtain ⟨w5, hw5, HK5, HB5, HR5, HS5⟩ : ∃ z, z = (w4.setCell ⟨g, 0, none⟩ (.slice A3 n c3)).setCell ⟨g, 1, none⟩ (.slice A4 m c4) ∧ Hid (Blk z w.heap.size 29 #[.slice A n c, .slice A' m c']) ∧ Hid (Below w.heap.size w z) ∧ Hid (AutAt z z.heap.size A3 c3 A4 c4 nx mk) ∧ Hid (Blk z g 29 #[.slice A3 n c3, .slice A4 m c4]) := by
    have hk : ∀ b, b ≠ g → ((w4.setCell ⟨g, 0, none⟩ (.slice A3 n c3)).setCell ⟨g, 1, none⟩ (.slice A4 m c4)).heap[b]? = w4.heap[b]? := fun b hb => (Below.heap_setCell _ _ _ b hb).trans (Below.heap_setCell _ _ _ b hb)
    have hsz : ((w4.setCell ⟨g, 0, none⟩ (.slice A3 n c3)).setCell ⟨g, 1, none⟩ (.slice A4 m c4)).heap.size = w4.heap.size := by simp [World.setCell]
    have hgs : w.heap.size ≤ g := by rw [HGW.out]; omega
    have hne : w.heap.size ≠ g := by rw [HGW.out]; omega
    refine ⟨_, rfl, Lib.hid ((HK4.out.far hne _).far hne _), Lib.hid ((HB4.out.setCell (p := ⟨g, 0, none⟩) hgs _).setCell (p := ⟨g, 1, none⟩) hgs _), Lib.hid ?_, Lib.hid ?_⟩
    · rw [hsz]
      refine ⟨⟨(HR3'.out.era_keep (E' := (· = g)) (fun b _ hb => hk b hb) (fun _ _ h => h)).of_era, ?_, ?_⟩, (HR4.out.1.era_keep (E' := (· = g)) (fun b _ hb => hk b hb) (fun _ _ h => h)).of_era, ?_, ?_⟩
      · rw [HN.out]; exact HR3.out.2.1
      · exact HR3.out.2.2
      · rw [HM.out]; exact HR4.out.2.1
      · exact HR4.out.2.2
    · exact (HK4'.out.set_ 0 _).set_ 1 _
  refine wpTr_one ?_
  refine stepTr_K (by simp only [List.getElem?_toArray, List.getElem?_cons_zero, List.getElem?_cons_succ]; rfl) (by rfl) (fun K hK => ?_)
  go_simp
  rw [← hw5]
  refine hK.out _ _ HK5.out ?_
  clear hK K
  try simp only [Act.put, List.setIfInBounds_toArray, List.set_cons_zero, List.set_cons_succ]
  refine wpTr_done ?_
  obtain ⟨y0, y1, yl⟩ := blk2 HS5.out
  clear b0 b1 bl f0 f1 hw5 HK4 HK4' HR3 HR4 HR3' HK3 HK3' HK2 HK2'
  go_wp2
  refine bodyPost_ret (v := .agg #[.slice A3 n c3, .slice A4 m c4]) ?_ rfl ⟨A3, c3, A4, c4, rfl, HR5.out, HB5.out⟩
  simp [results, Try.results39, go_sem, y0, y1]
end Go.Proofs.Ytkpblieanejmeaa
