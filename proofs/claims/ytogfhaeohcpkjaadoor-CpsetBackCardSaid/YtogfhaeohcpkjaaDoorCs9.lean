/-
  cpset.Or, And, Minus, Not, Subset: walks.
-/
import Derived.Test.YtogfhaeohcpkjaaDoorProg
import Derived.Test.YtogfhaeohcpkjaaDoorBase
import Derived.Test.YtogfhaeohcpkjaaDoorApp
import Derived.Test.YtogfhaeohcpkjaaDoorCs8
import Derived.Laws.OwnMore
import Derived.WalkKit
import Derived.KernelRfl
import Derived.Outline
import Derived.IntWalk
namespace Go.Proofs.YtogfhaeohcpkjaaDoor
open Go.RowKit Go.UtYtogfhaeohcpkjaaDoor
theorem RetSet.iff {w : World} {P Q : Int → Prop} {e : Ending} {w' : World} (h : RetSet w P e w') (hq : ∀ x, P x ↔ Q x) : RetSet w Q e w' := by
  obtain ⟨A, c, r, h1, h2, h3, h4, h5⟩ := h
  exact ⟨A, c, r, h1, h2, fun x => (h3 x).trans (hq x), h4, h5⟩
/-- The end of each: the result was stored into the call's own block g of one cell. -/
theorem retSet_store {w W w' : World} {P : Int → Prop} {e : Ending} {g : Nat} {t : TypeId} {u : Value} (hb : Below w.heap.size w W) (hX : Blk W g t #[u]) (hg : w.heap.size ≤ g) (h : RetSet W P e w') :
    ∃ (A : Option Addr) (c : Nat) (r : List Rg), e = .returned (.agg #[.slice A r.length c]) ∧ Blk w' g t #[u] ∧ Hid (Blk (w'.setCell ⟨g, 0, none⟩ (.slice A r.length c)) g t #[.slice A r.length c]) ∧ Hid (RetSet w P (.returned (.agg #[.slice A r.length c])) (w'.setCell ⟨g, 0, none⟩ (.slice A r.length c))) := by
  obtain ⟨A, c, r, rfl, h2, h3, h4, h5⟩ := h
  have X5 := hX.after h5
  refine ⟨A, c, r, rfl, X5, ?_, ⟨A, c, r, rfl, h2, h3, ?_, (hb.trans (h5.mono hb.size)).setCell (p := ⟨g, 0, none⟩) hg _⟩⟩
  · have := X5.set_ 0 (.slice A r.length c)
    show Blk _ _ _ _
    simpa using this
  · have := row_one X5 (grown_set (grown_refl w' (some g)) 0 (.slice A r.length c)) h4 (Nat.le_refl _)
    simpa using this
theorem kOr_any (a b : Bool) (w : World) : Calls Tryd.prog 43 #[.bool a, .bool b] w fun e w' => e = .returned (.bool (a || b)) ∧ w = w' := by
  cases a <;> cases b <;> (go_enter Tryd.func43, Tryd.ntmps43; go_wp2; go_ret; exact ⟨rfl, rfl⟩)
theorem eOr : ∀ args w, (callFunc 43 args).run Tryd.prog w = .ok (.enter 43 args) w := enters_of Tryd.func43 (by kernel_rfl) rfl
set_option maxRecDepth 100000 in
set_option maxHeartbeats 1000000 in
theorem or_any (A B : Option Addr) (ca cb : Nat) (la lb : List Rg) (w : World) (hRA : Row w w.heap.size A (rgs la)) (hRB : Row w w.heap.size B (rgs lb)) (hma : la.length ≤ 1099511627776) (hmb : lb.length ≤ 1099511627776) :
    Calls Tryd.prog 16 #[.agg #[.slice A la.length ca], .agg #[.slice B lb.length cb]] w (RetSet w fun x => hasP la x ∨ hasP lb x) := by
  obtain ⟨w1, h1, HB1, HX1⟩ : ∃ w1, w1 = ((w.alloc (.cells #[.slice A la.length ca] 24)).alloc (.cells #[.slice B lb.length cb] 24)).alloc (.cells #[.slice none 0 0] 24) ∧ Hid (Below w.heap.size w w1) ∧ Hid (Blk w1 (w.heap.size + 1 + 1) 24 #[.slice none 0 0]) := ⟨_, rfl, (((Below.refl _ _).alloc (Nat.le_refl _) _).alloc (by simp) _).alloc (by simp; omega) _, by have := Blk.new ((w.alloc (.cells #[.slice A la.length ca] 24)).alloc (.cells #[.slice B lb.length cb] 24)) 24 #[.slice none 0 0]; show Blk _ _ _ _; simpa using this⟩
  have HRA := Lib.hid (hRA.below HB1.out).lt
  have HRB := Lib.hid (hRB.below HB1.out).lt
  clear hRA hRB
  go_enter Tryd.func16, Tryd.ntmps16
  go_wp2_with (first | (go_at_call 42; rw [← h1]; clear h1; refine (combine_any 43 (fun a b => a || b) eOr kOr_any A B ca cb la lb w1 HRA.out HRB.out hma hmb).mono ?_; intro e w2 hr; obtain ⟨A2, c2, r, rfl, HX2, HX3, HR⟩ := retSet_store HB1.out HX1.out (by omega) hr; clear hr; have y0 := HX2.cell 0; have z0 := HX2.free 0; simp at y0))
  refine bodyPost_ret (v := .agg #[.slice A2 r.length c2]) ?_ rfl ?_
  · have q0 := HX3.out.cell 0
    simp at q0
    simp [results, Tryd.results16, go_sem, q0]
  · exact HR.out.iff (fun x => by by_cases h1 : hasP la x <;> by_cases h2 : hasP lb x <;> simp [h1, h2] <;> first | exact h1.1 | exact h2.1)
theorem kAnd_any (a b : Bool) (w : World) : Calls Tryd.prog 44 #[.bool a, .bool b] w fun e w' => e = .returned (.bool (a && b)) ∧ w = w' := by
  cases a <;> cases b <;> (go_enter Tryd.func44, Tryd.ntmps44; go_wp2; go_ret; exact ⟨rfl, rfl⟩)
theorem eAnd : ∀ args w, (callFunc 44 args).run Tryd.prog w = .ok (.enter 44 args) w := enters_of Tryd.func44 (by kernel_rfl) rfl
set_option maxRecDepth 100000 in
set_option maxHeartbeats 1000000 in
theorem and_any (A B : Option Addr) (ca cb : Nat) (la lb : List Rg) (w : World) (hRA : Row w w.heap.size A (rgs la)) (hRB : Row w w.heap.size B (rgs lb)) (hma : la.length ≤ 1099511627776) (hmb : lb.length ≤ 1099511627776) :
    Calls Tryd.prog 17 #[.agg #[.slice A la.length ca], .agg #[.slice B lb.length cb]] w (RetSet w fun x => hasP la x ∧ hasP lb x) := by
  obtain ⟨w1, h1, HB1, HX1⟩ : ∃ w1, w1 = ((w.alloc (.cells #[.slice A la.length ca] 24)).alloc (.cells #[.slice B lb.length cb] 24)).alloc (.cells #[.slice none 0 0] 24) ∧ Hid (Below w.heap.size w w1) ∧ Hid (Blk w1 (w.heap.size + 1 + 1) 24 #[.slice none 0 0]) := ⟨_, rfl, (((Below.refl _ _).alloc (Nat.le_refl _) _).alloc (by simp) _).alloc (by simp; omega) _, by have := Blk.new ((w.alloc (.cells #[.slice A la.length ca] 24)).alloc (.cells #[.slice B lb.length cb] 24)) 24 #[.slice none 0 0]; show Blk _ _ _ _; simpa using this⟩
  have HRA := Lib.hid (hRA.below HB1.out).lt
  have HRB := Lib.hid (hRB.below HB1.out).lt
  clear hRA hRB
  go_enter Tryd.func17, Tryd.ntmps17
  go_wp2_with (first | (go_at_call 42; rw [← h1]; clear h1; refine (combine_any 44 (fun a b => a && b) eAnd kAnd_any A B ca cb la lb w1 HRA.out HRB.out hma hmb).mono ?_; intro e w2 hr; obtain ⟨A2, c2, r, rfl, HX2, HX3, HR⟩ := retSet_store HB1.out HX1.out (by omega) hr; clear hr; have y0 := HX2.cell 0; have z0 := HX2.free 0; simp at y0))
  refine bodyPost_ret (v := .agg #[.slice A2 r.length c2]) ?_ rfl ?_
  · have q0 := HX3.out.cell 0
    simp at q0
    simp [results, Tryd.results17, go_sem, q0]
  · exact HR.out.iff (fun x => by by_cases h1 : hasP la x <;> by_cases h2 : hasP lb x <;> simp [h1, h2] <;> exact h1.1)
theorem kMinus_any (a b : Bool) (w : World) : Calls Tryd.prog 45 #[.bool a, .bool b] w fun e w' => e = .returned (.bool (a && !b)) ∧ w = w' := by
  cases a <;> cases b <;> (go_enter Tryd.func45, Tryd.ntmps45; go_wp2; go_ret; exact ⟨rfl, rfl⟩)
theorem eMinus : ∀ args w, (callFunc 45 args).run Tryd.prog w = .ok (.enter 45 args) w := enters_of Tryd.func45 (by kernel_rfl) rfl
set_option maxRecDepth 100000 in
set_option maxHeartbeats 1000000 in
theorem minus_any (A B : Option Addr) (ca cb : Nat) (la lb : List Rg) (w : World) (hRA : Row w w.heap.size A (rgs la)) (hRB : Row w w.heap.size B (rgs lb)) (hma : la.length ≤ 1099511627776) (hmb : lb.length ≤ 1099511627776) :
    Calls Tryd.prog 18 #[.agg #[.slice A la.length ca], .agg #[.slice B lb.length cb]] w (RetSet w fun x => hasP la x ∧ ¬ hasP lb x) := by
  obtain ⟨w1, h1, HB1, HX1⟩ : ∃ w1, w1 = ((w.alloc (.cells #[.slice A la.length ca] 24)).alloc (.cells #[.slice B lb.length cb] 24)).alloc (.cells #[.slice none 0 0] 24) ∧ Hid (Below w.heap.size w w1) ∧ Hid (Blk w1 (w.heap.size + 1 + 1) 24 #[.slice none 0 0]) := ⟨_, rfl, (((Below.refl _ _).alloc (Nat.le_refl _) _).alloc (by simp) _).alloc (by simp; omega) _, by have := Blk.new ((w.alloc (.cells #[.slice A la.length ca] 24)).alloc (.cells #[.slice B lb.length cb] 24)) 24 #[.slice none 0 0]; show Blk _ _ _ _; simpa using this⟩
  have HRA := Lib.hid (hRA.below HB1.out).lt
  have HRB := Lib.hid (hRB.below HB1.out).lt
  clear hRA hRB
  go_enter Tryd.func18, Tryd.ntmps18
  go_wp2_with (first | (go_at_call 42; rw [← h1]; clear h1; refine (combine_any 45 (fun a b => a && !b) eMinus kMinus_any A B ca cb la lb w1 HRA.out HRB.out hma hmb).mono ?_; intro e w2 hr; obtain ⟨A2, c2, r, rfl, HX2, HX3, HR⟩ := retSet_store HB1.out HX1.out (by omega) hr; clear hr; have y0 := HX2.cell 0; have z0 := HX2.free 0; simp at y0))
  refine bodyPost_ret (v := .agg #[.slice A2 r.length c2]) ?_ rfl ?_
  · have q0 := HX3.out.cell 0
    simp at q0
    simp [results, Tryd.results18, go_sem, q0]
  · exact HR.out.iff (fun x => by by_cases h1 : hasP la x <;> by_cases h2 : hasP lb x <;> simp [h1, h2] <;> exact h1.1)
theorem kNot_any (a b : Bool) (w : World) : Calls Tryd.prog 46 #[.bool a, .bool b] w fun e w' => e = .returned (.bool (!a)) ∧ w = w' := by
  cases a <;> cases b <;> (go_enter Tryd.func46, Tryd.ntmps46; go_wp2; go_ret; exact ⟨rfl, rfl⟩)
theorem eNot : ∀ args w, (callFunc 46 args).run Tryd.prog w = .ok (.enter 46 args) w := enters_of Tryd.func46 (by kernel_rfl) rfl
set_option maxRecDepth 100000 in
set_option maxHeartbeats 1000000 in
theorem not_any (A : Option Addr) (ca : Nat) (la : List Rg) (w : World) (hRA : Row w w.heap.size A (rgs la)) (hma : la.length ≤ 1099511627776) :
    Calls Tryd.prog 19 #[.agg #[.slice A la.length ca]] w (RetSet w fun x => codeP x ∧ ¬ hasP la x) := by
  obtain ⟨w1, h1, HB1, HX1⟩ : ∃ w1, w1 = (w.alloc (.cells #[.slice A la.length ca] 24)).alloc (.cells #[.slice none 0 0] 24) ∧ Hid (Below w.heap.size w w1) ∧ Hid (Blk w1 (w.heap.size + 1) 24 #[.slice none 0 0]) := ⟨_, rfl, ((Below.refl _ _).alloc (Nat.le_refl _) _).alloc (by simp) _, by have := Blk.new (w.alloc (.cells #[.slice A la.length ca] 24)) 24 #[.slice none 0 0]; show Blk _ _ _ _; simpa using this⟩
  have HRA := Lib.hid (hRA.below HB1.out).lt
  clear hRA
  go_enter Tryd.func19, Tryd.ntmps19
  go_wp2_with (first | (go_at_call 42; rw [← h1]; clear h1; refine (combine_any 46 (fun a _ => !a) eNot kNot_any A none ca 0 la [] w1 HRA.out Row.nil hma (by simp)).mono ?_; intro e w2 hr; obtain ⟨A2, c2, r, rfl, HX2, HX3, HR⟩ := retSet_store HB1.out HX1.out (by omega) hr; clear hr; have y0 := HX2.cell 0; have z0 := HX2.free 0; simp at y0))
  refine bodyPost_ret (v := .agg #[.slice A2 r.length c2]) ?_ rfl ?_
  · have q0 := HX3.out.cell 0
    simp at q0
    simp [results, Tryd.results19, go_sem, q0]
  · exact HR.out.iff (fun x => by by_cases h1 : hasP la x <;> simp [h1])
theorem can_empty {r : List Rg} (h : Cnn r) : r.length = 0 ↔ ∀ x, ¬ hasP r x := by
  constructor
  · intro h0 x hx
    obtain rfl : r = [] := List.eq_nil_of_length_eq_zero h0
    exact memR_nil hx.2
  · intro hx
    cases r with
    | nil => rfl
    | cons s r => exact absurd ((can_has h s.1).2 (memR_cons.2 (.inl ⟨Int.le_refl _, h.2.1⟩))) (hx s.1)
/-- each element of a is in b -/
def subP (la lb : List Rg) : Prop := ∀ x, hasP la x → hasP lb x
set_option maxRecDepth 100000 in
set_option maxHeartbeats 1000000 in
theorem subset_any (A B : Option Addr) (ca cb : Nat) (la lb : List Rg) (w : World) (hRA : Row w w.heap.size A (rgs la)) (hRB : Row w w.heap.size B (rgs lb)) (hma : la.length ≤ 1099511627776) (hmb : lb.length ≤ 1099511627776) (v : Bool) (hv : v = true ↔ subP la lb) :
    Calls Tryd.prog 37 #[.agg #[.slice A la.length ca], .agg #[.slice B lb.length cb]] w fun e w' => e = .returned (.bool v) ∧ Below w.heap.size w w' := by
  obtain ⟨w1, h1, HB1⟩ : ∃ w1, w1 = (w.alloc (.cells #[.slice A la.length ca] 24)).alloc (.cells #[.slice B lb.length cb] 24) ∧ Hid (Below w.heap.size w w1) := ⟨_, rfl, ((Below.refl _ _).alloc (Nat.le_refl _) _).alloc (by simp) _⟩
  have HRA := Lib.hid (hRA.below HB1.out).lt
  have HRB := Lib.hid (hRB.below HB1.out).lt
  have HV := Lib.hid hv
  clear hRA hRB hv
  have qF := run_field_set
  go_enter Tryd.func37, Tryd.ntmps37
  go_wp2_with (first | (go_at_call 18; rw [← h1]; clear h1; refine (minus_any A B ca cb la lb w1 HRA.out HRB.out hma hmb).mono ?_; rintro e w2 ⟨A2, c2, r, rfl, hc, hh, hr, hb2⟩; have HC := Lib.hid hc; have HH := Lib.hid hh; have HB2 := Lib.hid (HB1.out.trans (hb2.mono HB1.out.size)); clear hc hh hr hb2))
  go_ret
  refine ⟨ret_bool ?_, HB2.out⟩
  rw [Bool.eq_iff_iff, HV.out]
  have := can_empty HC.out
  simp only [beq_iff_eq]
  constructor
  · intro h x hx
    have h0 := this.1 (by omega) x
    rw [HH.out] at h0
    exact Classical.byContradiction fun h' => h0 ⟨hx, h'⟩
  · intro h
    have := this.2 (fun x hx => ((HH.out x).1 hx).2 (h x ((HH.out x).1 hx).1))
    omega
end Go.Proofs.YtogfhaeohcpkjaaDoor
