/-
  Memory with some blocks erased: what still reads there lies in other blocks; over whatever program.
  slices.Clone at integers, sets, ranges, pieces.
-/
import Derived.Test.YtjohoohdjlajcaaBase
import Derived.Test.YtjohoohdjlajcaaOwn
import Derived.Test.YtjohoohdjlajcaaTd1
import Derived.Test.YtjohoohdjlajcaaProg
import Derived.Laws.OwnMore
import Derived.Laws.Cover3
import Derived.Lib.SliceRun
import Derived.WalkKit
import Derived.OwnWalk
import Derived.Deep.QuietTactic
import Derived.BigQuiet
import Derived.KernelRfl
import Derived.Outline
import Derived.IntWalk
namespace Go.UtYtjohoohdjlajcaa
open Go.RowKit
open Classical in
/-- the world without what the blocks of E hold -/
noncomputable def era (w : World) (E : Nat → Prop) : World := { w with heap := w.heap.mapIdx fun i o => if E i then Obj.cells #[] 0 else o }
theorem era_size (w : World) (E : Nat → Prop) : (era w E).heap.size = w.heap.size := by simp [era]
theorem era_heap {w : World} {E : Nat → Prop} {b : Nat} (h : ¬ E b) : (era w E).heap[b]? = w.heap[b]? := by
  unfold era
  simp only [Array.getElem?_mapIdx]
  cases w.heap[b]? with
  | none => rfl
  | some o => simp [h]
theorem era_old {w : World} {E : Nat → Prop} {p : Addr} (h : E p.block) : (era w E).cell? p = none := by
  unfold World.cell? era
  simp only [Array.getElem?_mapIdx, h, if_true]
  cases w.heap[p.block]? with
  | none => rfl
  | some o => simp
theorem era_new {w : World} {E : Nat → Prop} {p : Addr} (h : ¬ E p.block) : (era w E).cell? p = w.cell? p := by
  unfold World.cell?
  rw [era_heap h]
theorem era_some {w : World} {E : Nat → Prop} {p : Addr} {v : Value} (h : (era w E).cell? p = some v) : w.cell? p = some v ∧ ¬ E p.block := by
  by_cases h1 : E p.block
  · rw [era_old h1] at h
    cases h
  · rw [era_new h1] at h
    exact ⟨h, h1⟩
section
variable {w w' : World} {B B' : Nat} {E E' : Nat → Prop} {A : Option Addr}
theorem Row.of_era {vs : List Value} (h : Row (era w E) B A vs) : Row w B A vs := fun hv => by
  obtain ⟨b, o, e, hb, hc⟩ := h hv
  exact ⟨b, o, e, hb, fun k v hk => (era_some (hc k v hk)).1⟩
/-- what lies outside of E reads on, if only blocks of E (or such as are too new) have changed, and E has grown by such blocks alone -/
theorem Row.era_keep {vs : List Value} (h : Row (era w E) B A vs) (hk : ∀ b, b < B → ¬ E b → w'.heap[b]? = w.heap[b]?) (he : ∀ b, b < B → E' b → E b) : Row (era w' E') B A vs := fun hv => by
  obtain ⟨b, o, e, hb, hc⟩ := h hv
  refine ⟨b, o, e, hb, fun k v hk' => ?_⟩
  obtain ⟨h1, h2⟩ := era_some (hc k v hk')
  have h3 : ¬ E b := h2
  rw [Go.UtYtjohoohdjlajcaa.era_new (p := ⟨b, o + k, none⟩) (fun h => h3 (he b hb h)), ← h1]
  exact World.cell?_of_block (hk b hb h3)
theorem Row.era_new {vs : List Value} {N : Nat} (h : Row w B A vs) (hn : NewAt N A) (he : ∀ b, E b → b < N) : Row (era w E) B A vs := fun hv => by
  obtain ⟨b, o, e, hb, hc⟩ := h hv
  refine ⟨b, o, e, hb, fun k v hk' => ?_⟩
  have h1 : N ≤ b := hn _ e
  rw [Go.UtYtjohoohdjlajcaa.era_new (p := ⟨b, o + k, none⟩) (fun h => by have := he b h; omega)]
  exact hc k v hk'
theorem Row.era_below {vs : List Value} (h : Row w B A vs) (he : ∀ b, E b → B ≤ b) : Row (era w E) B A vs := fun hv => by
  obtain ⟨b, o, e, hb, hc⟩ := h hv
  refine ⟨b, o, e, hb, fun k v hk' => ?_⟩
  rw [Go.UtYtjohoohdjlajcaa.era_new (p := ⟨b, o + k, none⟩) (fun h => by have := he b h; omega)]
  exact hc k v hk'
theorem SetsAt.of_era {sets : List (List Rg)} (h : SetsAt (era w E) B A sets) : SetsAt w B A sets := by
  obtain ⟨vs, h1, h2, h3⟩ := h
  refine ⟨vs, h1, h2.of_era, fun k s hs => ?_⟩
  obtain ⟨A', c', g1, g2, g3, g4⟩ := h3 k s hs
  exact ⟨A', c', g1, g2, g3, g4.of_era⟩
theorem SetsAt.era_keep {sets : List (List Rg)} (h : SetsAt (era w E) B A sets) (hk : ∀ b, b < B → ¬ E b → w'.heap[b]? = w.heap[b]?) (he : ∀ b, b < B → E' b → E b) : SetsAt (era w' E') B A sets := by
  obtain ⟨vs, h1, h2, h3⟩ := h
  refine ⟨vs, h1, h2.era_keep hk he, fun k s hs => ?_⟩
  obtain ⟨A', c', g1, g2, g3, g4⟩ := h3 k s hs
  exact ⟨A', c', g1, g2, g3, g4.era_keep hk he⟩
theorem RuleAt.of_era {vs : List Value} {r : TR} (h : RuleAt (era w E) B vs r) : RuleAt w B vs r := by
  obtain ⟨Ab, cb, Am, cm, Aa, ca, Ar, cr, h1, ⟨h2, h3, h4, h5⟩, h6⟩ := h
  exact ⟨Ab, cb, Am, cm, Aa, ca, Ar, cr, h1, ⟨h2.of_era, h3.of_era, h4.of_era, h5.of_era⟩, h6⟩
theorem RuleAt.era_keep {vs : List Value} {r : TR} (h : RuleAt (era w E) B vs r) (hk : ∀ b, b < B → ¬ E b → w'.heap[b]? = w.heap[b]?) (he : ∀ b, b < B → E' b → E b) : RuleAt (era w' E') B vs r := by
  obtain ⟨Ab, cb, Am, cm, Aa, ca, Ar, cr, h1, ⟨h2, h3, h4, h5⟩, h6⟩ := h
  exact ⟨Ab, cb, Am, cm, Aa, ca, Ar, cr, h1, ⟨h2.era_keep hk he, h3.era_keep hk he, h4.era_keep hk he, h5.era_keep hk he⟩, h6⟩
theorem RulesAt.of_era {rules : List TR} (h : RulesAt (era w E) B A rules) : RulesAt w B A rules := by
  obtain ⟨vss, h1, h2, h3, h4⟩ := h
  refine ⟨vss, h1, h2, h3.of_era, fun k r hr => ?_⟩
  obtain ⟨cs, g1, g2⟩ := h4 k r hr
  exact ⟨cs, g1, g2.of_era⟩
theorem RulesAt.era_keep {rules : List TR} (h : RulesAt (era w E) B A rules) (hk : ∀ b, b < B → ¬ E b → w'.heap[b]? = w.heap[b]?) (he : ∀ b, b < B → E' b → E b) : RulesAt (era w' E') B A rules := by
  obtain ⟨vss, h1, h2, h3, h4⟩ := h
  refine ⟨vss, h1, h2, h3.era_keep hk he, fun k r hr => ?_⟩
  obtain ⟨cs, g1, g2⟩ := h4 k r hr
  exact ⟨cs, g1, g2.era_keep hk he⟩
end
end Go.UtYtjohoohdjlajcaa
namespace Go.UtYtjohoohdjlajcaa
open Go.RowKit
theorem own_mt (w : World) (t e : TypeId) (size : Nat) (h : t = e) : (w.alloc (.cells #[] t)).ownsRow w.heap.size e size (.slice (some ⟨w.heap.size, 0, none⟩) 0 0) 0 [] := by
  subst h
  exact ⟨by simp, .inr ⟨w.heap.size, 0, #[], rfl, Nat.le_refl _, heap_alloc_new w _, Nat.le_refl _, by simp [maxLen], by simp, by simp⟩⟩
/-- the call returns a copy, in memory of its own -/
def RetCl (e : TypeId) (size : Nat) (w : World) (n : Nat) (vs : List Value) (en : Ending) (w' : World) : Prop :=
  ∃ A' c', en = .returned (.slice A' n c') ∧ w'.ownsRow w.heap.size e size (.slice A' n c') n vs ∧ Below w.heap.size w w'
end Go.UtYtjohoohdjlajcaa
namespace Go.Proofs.Ytjohoohdjlajcaa
open Go.RowKit Go.UtYtjohoohdjlajcaa
theorem int_inf : (Try.prog.info? 3).map (fun i => (i.zero, i.size, i.bytes)) = some (some (.int .i64 0), 1, 8) := by kernel_rfl
set_option maxRecDepth 8000 in
set_option maxHeartbeats 1000000 in
theorem clone_int (A : Option Addr) (n c : Nat) (vs : List Value) (w : World) (hR : Row w w.heap.size A vs) (hl : vs.length = n * 1) (h1 : ∀ u ∈ vs, u.oneCell' = true) (hn : n ≤ 1000000000) :
    Calls Try.prog 39 #[.slice A n c] w (RetCl 3 1 w n vs) := by
  have HR := Lib.hid hR
  have HL := Lib.hid hl
  have H1 := Lib.hid h1
  clear hR hl h1
  obtain ⟨i0, hi0, hz0, hz1, hz2⟩ := info_parts int_inf
  cases A with
  | none =>
    have hv : vs = [] := Classical.byContradiction fun h => by
      obtain ⟨_, _, h', _⟩ := HR.out h
      cases h'
    have hn0 : n = 0 := by
      have := HL.out
      rw [hv] at this
      simp at this
      omega
    subst hn0
    subst hv
    have hnil := Lib.run_eql_slice_nil (P := Try.prog) w 31 3 none 0 c 0 0 Try.underlying31
    go_enter Try.func39, Try.ntmps39
    go_wp2
    go_ret
    exact ⟨none, 0, rfl, own_nil w, Below.refl _ _⟩
  | some a =>
    have hnil := Lib.run_eql_slice_nil (P := Try.prog) w 31 3 (some a) n c 0 0 Try.underlying31
    go_enter Try.func39, Try.ntmps39
    go_wp2_with (first
      | (at_builtin
         refine wpList_append_row _ rfl (.tmp 5) (.tmp 6) _ rfl w.heap.size 3 i0 _ 1 8 Try.underlying31 hi0 hz0 hz1 hz2 rfl (by omega) (.slice (some ⟨w.heap.size, 0, none⟩) 0 0) 0 [] rfl (own_mt w _ _ _ rfl) _ _ n c vs rfl HL.out (HR.out.below ((Below.refl _ _).alloc (Nat.le_refl _) _)) H1.out (by simp only [maxLen]; omega) (by omega) (by simp) ?_
         intro q4 w4 o4 g4 t4
         rw [Nat.zero_add, List.nil_append] at o4
         obtain ⟨A4, c4, rfl⟩ := ow_slice (m := n) o4 rfl
         have HB4 : Hid (Below w.heap.size w w4) := ((Below.refl _ _).alloc (Nat.le_refl _) _).grown g4 (by simp) (fun g hg => by simp [Value.ownBlock] at hg; omega)
         have HO4 := Lib.hid o4
         clear o4 g4 t4))
    go_ret
    exact ⟨A4, c4, rfl, HO4.out, HB4.out⟩
theorem set_inf : (Try.prog.info? 45).map (fun i => (i.zero, i.size, i.bytes)) = some (some (.agg #[.slice none 0 0]), 1, 24) := by kernel_rfl
set_option maxRecDepth 8000 in
set_option maxHeartbeats 1000000 in
theorem clone_set (A : Option Addr) (n c : Nat) (vs : List Value) (w : World) (hR : Row w w.heap.size A vs) (hl : vs.length = n * 1) (h1 : ∀ u ∈ vs, u.oneCell' = true) (hn : n ≤ 1000000000) :
    Calls Try.prog 43 #[.slice A n c] w (RetCl 45 1 w n vs) := by
  have HR := Lib.hid hR
  have HL := Lib.hid hl
  have H1 := Lib.hid h1
  clear hR hl h1
  obtain ⟨i0, hi0, hz0, hz1, hz2⟩ := info_parts set_inf
  cases A with
  | none =>
    have hv : vs = [] := Classical.byContradiction fun h => by
      obtain ⟨_, _, h', _⟩ := HR.out h
      cases h'
    have hn0 : n = 0 := by
      have := HL.out
      rw [hv] at this
      simp at this
      omega
    subst hn0
    subst hv
    have hnil := Lib.run_eql_slice_nil (P := Try.prog) w 38 45 none 0 c 0 0 Try.underlying38
    go_enter Try.func43, Try.ntmps43
    go_wp2
    go_ret
    exact ⟨none, 0, rfl, own_nil w, Below.refl _ _⟩
  | some a =>
    have hnil := Lib.run_eql_slice_nil (P := Try.prog) w 38 45 (some a) n c 0 0 Try.underlying38
    go_enter Try.func43, Try.ntmps43
    go_wp2_with (first
      | (at_builtin
         refine wpList_append_row _ rfl (.tmp 5) (.tmp 6) _ rfl w.heap.size 45 i0 _ 1 24 Try.underlying38 hi0 hz0 hz1 hz2 rfl (by omega) (.slice (some ⟨w.heap.size, 0, none⟩) 0 0) 0 [] rfl (own_mt w _ _ _ rfl) _ _ n c vs rfl HL.out (HR.out.below ((Below.refl _ _).alloc (Nat.le_refl _) _)) H1.out (by simp only [maxLen]; omega) (by omega) (by simp) ?_
         intro q4 w4 o4 g4 t4
         rw [Nat.zero_add, List.nil_append] at o4
         obtain ⟨A4, c4, rfl⟩ := ow_slice (m := n) o4 rfl
         have HB4 : Hid (Below w.heap.size w w4) := ((Below.refl _ _).alloc (Nat.le_refl _) _).grown g4 (by simp) (fun g hg => by simp [Value.ownBlock] at hg; omega)
         have HO4 := Lib.hid o4
         clear o4 g4 t4))
    go_ret
    exact ⟨A4, c4, rfl, HO4.out, HB4.out⟩
theorem rng_inf : (Try.prog.info? 71).map (fun i => (i.zero, i.size, i.bytes)) = some (some (.agg #[.int .i64 0, .int .i64 0]), 2, 16) := by kernel_rfl
set_option maxRecDepth 8000 in
set_option maxHeartbeats 1000000 in
theorem clone_rng (A : Option Addr) (n c : Nat) (vs : List Value) (w : World) (hR : Row w w.heap.size A vs) (hl : vs.length = n * 2) (h1 : ∀ u ∈ vs, u.oneCell' = true) (hn : n ≤ 1000000000) :
    Calls Try.prog 44 #[.slice A n c] w (RetCl 71 2 w n vs) := by
  have HR := Lib.hid hR
  have HL := Lib.hid hl
  have H1 := Lib.hid h1
  clear hR hl h1
  obtain ⟨i0, hi0, hz0, hz1, hz2⟩ := info_parts rng_inf
  cases A with
  | none =>
    have hv : vs = [] := Classical.byContradiction fun h => by
      obtain ⟨_, _, h', _⟩ := HR.out h
      cases h'
    have hn0 : n = 0 := by
      have := HL.out
      rw [hv] at this
      simp at this
      omega
    subst hn0
    subst hv
    have hnil := Lib.run_eql_slice_nil (P := Try.prog) w 43 71 none 0 c 0 0 Try.underlying43
    go_enter Try.func44, Try.ntmps44
    go_wp2
    go_ret
    exact ⟨none, 0, rfl, own_nil w, Below.refl _ _⟩
  | some a =>
    have hnil := Lib.run_eql_slice_nil (P := Try.prog) w 43 71 (some a) n c 0 0 Try.underlying43
    go_enter Try.func44, Try.ntmps44
    go_wp2_with (first
      | (at_builtin
         refine wpList_append_row _ rfl (.tmp 5) (.tmp 6) _ rfl w.heap.size 71 i0 _ 2 16 Try.underlying43 hi0 hz0 hz1 hz2 rfl (by omega) (.slice (some ⟨w.heap.size, 0, none⟩) 0 0) 0 [] rfl (own_mt w _ _ _ rfl) _ _ n c vs rfl HL.out (HR.out.below ((Below.refl _ _).alloc (Nat.le_refl _) _)) H1.out (by simp only [maxLen]; omega) (by omega) (by simp) ?_
         intro q4 w4 o4 g4 t4
         rw [Nat.zero_add, List.nil_append] at o4
         obtain ⟨A4, c4, rfl⟩ := ow_slice (m := n) o4 rfl
         have HB4 : Hid (Below w.heap.size w w4) := ((Below.refl _ _).alloc (Nat.le_refl _) _).grown g4 (by simp) (fun g hg => by simp [Value.ownBlock] at hg; omega)
         have HO4 := Lib.hid o4
         clear o4 g4 t4))
    go_ret
    exact ⟨A4, c4, rfl, HO4.out, HB4.out⟩
theorem pce_inf : (Try.prog.info? 59).map (fun i => (i.zero, i.size, i.bytes)) = some (some (.agg #[.int .i64 0, .int .i64 0]), 2, 16) := by kernel_rfl
set_option maxRecDepth 8000 in
set_option maxHeartbeats 1000000 in
theorem clone_pce (A : Option Addr) (n c : Nat) (vs : List Value) (w : World) (hR : Row w w.heap.size A vs) (hl : vs.length = n * 2) (h1 : ∀ u ∈ vs, u.oneCell' = true) (hn : n ≤ 1000000000) :
    Calls Try.prog 28 #[.slice A n c] w (RetCl 59 2 w n vs) := by
  have HR := Lib.hid hR
  have HL := Lib.hid hl
  have H1 := Lib.hid h1
  clear hR hl h1
  obtain ⟨i0, hi0, hz0, hz1, hz2⟩ := info_parts pce_inf
  cases A with
  | none =>
    have hv : vs = [] := Classical.byContradiction fun h => by
      obtain ⟨_, _, h', _⟩ := HR.out h
      cases h'
    have hn0 : n = 0 := by
      have := HL.out
      rw [hv] at this
      simp at this
      omega
    subst hn0
    subst hv
    have hnil := Lib.run_eql_slice_nil (P := Try.prog) w 39 59 none 0 c 0 0 Try.underlying39
    go_enter Try.func28, Try.ntmps28
    go_wp2
    go_ret
    exact ⟨none, 0, rfl, own_nil w, Below.refl _ _⟩
  | some a =>
    have hnil := Lib.run_eql_slice_nil (P := Try.prog) w 39 59 (some a) n c 0 0 Try.underlying39
    go_enter Try.func28, Try.ntmps28
    go_wp2_with (first
      | (at_builtin
         refine wpList_append_row _ rfl (.tmp 5) (.tmp 6) _ rfl w.heap.size 59 i0 _ 2 16 Try.underlying39 hi0 hz0 hz1 hz2 rfl (by omega) (.slice (some ⟨w.heap.size, 0, none⟩) 0 0) 0 [] rfl (own_mt w _ _ _ rfl) _ _ n c vs rfl HL.out (HR.out.below ((Below.refl _ _).alloc (Nat.le_refl _) _)) H1.out (by simp only [maxLen]; omega) (by omega) (by simp) ?_
         intro q4 w4 o4 g4 t4
         rw [Nat.zero_add, List.nil_append] at o4
         obtain ⟨A4, c4, rfl⟩ := ow_slice (m := n) o4 rfl
         have HB4 : Hid (Below w.heap.size w w4) := ((Below.refl _ _).alloc (Nat.le_refl _) _).grown g4 (by simp) (fun g hg => by simp [Value.ownBlock] at hg; omega)
         have HO4 := Lib.hid o4
         clear o4 g4 t4))
    go_ret
    exact ⟨A4, c4, rfl, HO4.out, HB4.out⟩
end Go.Proofs.Ytjohoohdjlajcaa
