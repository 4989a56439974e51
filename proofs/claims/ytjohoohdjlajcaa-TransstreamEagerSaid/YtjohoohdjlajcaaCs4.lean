/-
  The order of ranges: cmp.Or at two ints, Make$1 (the order that Make sorts by).
-/
import Derived.Test.YtjohoohdjlajcaaProg
import Derived.Test.YtjohoohdjlajcaaBase
import Derived.Test.YtjohoohdjlajcaaCs2
import Derived.Test.YtjohoohdjlajcaaCmp
import Derived.Test.YtjohoohdjlajcaaTree
import Derived.WalkKit
import Derived.KernelRfl
import Derived.Outline
import Derived.IntWalk
namespace Go.Proofs.Ytjohoohdjlajcaa
open Go.RowKit Go.UtYtjohoohdjlajcaa
def cmpR (a b : Rg) : Int := if cmp3 a.1 b.1 ≠ 0 then cmp3 a.1 b.1 else cmp3 a.2 b.2
theorem or2_any (g : Nat) (x y : Int) (w : World) (hc0 : w.cell? ⟨g, 0, none⟩ = some (.int .i64 x)) (hc1 : w.cell? ⟨g, 1, none⟩ = some (.int .i64 y)) (v : Int) (hv : (if x ≠ 0 then x else y) = v) :
    Calls Try.prog 64 #[.slice (some ⟨g, 0, none⟩) 2 2] w fun e w' => e = .returned (.int .i64 v) ∧ w' = w := by
  have HV := Lib.hid hv
  clear hv
  go_enter Try.func64, Try.ntmps64
  go_wp2
  go_loopw [8] (fun i wr => (i = .int .i64 0 ∨ (i = .int .i64 1 ∧ Hid (x = 0)) ∨ (i = .int .i64 2 ∧ Hid (x = 0) ∧ Hid (y = 0))) ∧ wr = w) (fun i _ => 2 - (intOf i).toNat)
  case atStart => exact ⟨Or.inl rfl, rfl⟩
  case round =>
    obtain ⟨h, rfl⟩ := hrel
    rcases h with rfl | ⟨rfl, H0⟩ | ⟨rfl, H0, H1⟩
    · by_cases hx : x = 0
      · have hx' : (x != 0) = false := by simp [hx]
        have HX := Lib.hid hx
        clear hx
        go_wp2
        go_roundw
        case rel => exact ⟨Or.inr (Or.inl ⟨rfl, HX⟩), by trivial⟩
        case measure => simp [intOf]
      · have hx' : (x != 0) = true := by simp [hx]
        have HE : Hid (x = v) := by
          show _ = _
          rw [← HV.out, if_pos hx]
        clear hx
        go_wp2
        go_ret
        exact ⟨ret_int HE.out, rfl⟩
    · have HE : Hid (y = v) := by
        show _ = _
        rw [← HV.out, if_neg (fun h => h H0.out)]
      by_cases hx : y = 0
      · have hx' : (y != 0) = false := by simp [hx]
        have HX := Lib.hid hx
        clear hx
        go_wp2
        go_roundw
        case rel => exact ⟨Or.inr (Or.inr ⟨rfl, H0, HX⟩), by trivial⟩
        case measure => simp [intOf]
      · have hx' : (y != 0) = true := by simp [hx]
        clear hx
        go_wp2
        go_ret
        exact ⟨ret_int HE.out, rfl⟩
    · have HE : Hid (0 = v) := by
        show _ = _
        rw [← HV.out, if_neg (fun h => h H0.out), H1.out]
      go_wp2
      go_ret
      exact ⟨ret_int HE.out, rfl⟩
set_option maxRecDepth 100000 in
set_option maxHeartbeats 1000000 in
theorem cmpR_any (x y : Rg) (w : World) (v : Int) (hv : cmpR x y = v) :
    Calls Try.prog 63 #[.agg #[.int .i64 x.1, .int .i64 x.2], .agg #[.int .i64 y.1, .int .i64 y.2]] w fun e w' => e = .returned (.int .i64 v) ∧ Below w.heap.size w w' ∧ w.drawn ≤ w'.drawn := by
  have HV := Lib.hid hv
  clear hv
  obtain ⟨w1, h1, HS⟩ : ∃ w1, w1 = (w.alloc (.cells #[.int .i64 x.1, .int .i64 x.2] 71)).alloc (.cells #[.int .i64 y.1, .int .i64 y.2] 71) ∧ Hid ((fun w' => (Below w.heap.size w w' ∧ w.drawn ≤ w'.drawn) ∧ Blk w' w.heap.size 71 #[.int .i64 x.1, .int .i64 x.2] ∧ Blk w' (w.heap.size + 1) 71 #[.int .i64 y.1, .int .i64 y.2]) w1) := ⟨_, rfl, ⟨((Below.refl _ _).alloc (Nat.le_refl _) _).alloc (by simp) _, Nat.le_refl _⟩, (Blk.new w _ _).alloc _, by have := Blk.new (w.alloc (.cells #[.int .i64 x.1, .int .i64 x.2] 71)) 71 #[.int .i64 y.1, .int .i64 y.2]; simpa using this⟩
  go_enter Try.func63, Try.ntmps63
  go_wp2_with fail
  rw [← h1]
  clear h1
  obtain ⟨d, hd, HS⟩ : ∃ d, d = w1.drew ∧ Hid ((fun w' => (Below w.heap.size w w' ∧ w.drawn ≤ w'.drawn) ∧ Blk w' w.heap.size 71 #[.int .i64 x.1, .int .i64 x.2] ∧ Blk w' (w.heap.size + 1) 71 #[.int .i64 y.1, .int .i64 y.2]) d) := ⟨_, rfl, ⟨below_drewN HS.out.1.1 1, Nat.le_trans HS.out.1.2 (Nat.le_succ _)⟩, HS.out.2.1, HS.out.2.2⟩
  refine wp_region_tree (fun w' => (Below w.heap.size w w' ∧ w.drawn ≤ w'.drawn) ∧ Blk w' w.heap.size 71 #[.int .i64 x.1, .int .i64 x.2] ∧ Blk w' (w.heap.size + 1) 71 #[.int .i64 y.1, .int .i64 y.2]) (.float 0 (.float 1 (.float 2 (.float 3 (.float 5 (.float 6 (.float 7 (.float 8 (.one 4 (.one 9 (.one 10 (.one 11 (.float 12 .done))))))))))))) (by kernel_rfl) (by kernel_rfl) (fun _ _ d _ _ h => by cases d <;> exact h) (hd ▸ HS.out) ?_
  rw [← hd]
  clear hd
  repeat (first
    | (refine wpTr_fskip (by simp only [List.getElem?_toArray, List.getElem?_cons_zero, List.getElem?_cons_succ]; rfl) (by rfl) ?_
       simp only [Act.put, List.setIfInBounds_toArray, List.set_cons_zero, List.set_cons_succ])
    | (refine wpTr_float (v := ?_) (by simp only [List.getElem?_toArray, List.getElem?_cons_zero, List.getElem?_cons_succ]; rfl) (by rfl) (fun w' hS => ?_) ?_
       rotate_left
       (obtain ⟨-, hS1, hS2⟩ := hS; have e1 := hS1.cell 0; have e2 := hS1.cell 1; have e3 := hS2.cell 0; have e4 := hS2.cell 1; go_simp; first | done | rfl)
       simp only [Act.put, List.setIfInBounds_toArray, List.set_cons_zero, List.set_cons_succ]))
  refine wpTr_one ?_
  refine stepTr_K (by simp only [List.getElem?_toArray, List.getElem?_cons_zero, List.getElem?_cons_succ]; rfl) (by rfl) (fun K hK => ?_)
  go_simp
  refine (cmp_any _ _ _ _ rfl).mono ?_
  rintro e w2 ⟨rfl, hw⟩
  obtain rfl : d = w2 := hw.symm
  try go_simp
  refine hK.out _ _ HS.out ?_
  clear hK K
  try simp only [Act.put, List.setIfInBounds_toArray, List.set_cons_zero, List.set_cons_succ]
  refine wpTr_one ?_
  refine stepTr_K (by simp only [List.getElem?_toArray, List.getElem?_cons_zero, List.getElem?_cons_succ]; rfl) (by rfl) (fun K hK => ?_)
  go_simp
  refine (cmp_any _ _ _ _ rfl).mono ?_
  rintro e w2 ⟨rfl, hw⟩
  obtain rfl : d = w2 := hw.symm
  try go_simp
  refine hK.out _ _ HS.out ?_
  clear hK K
  try simp only [Act.put, List.setIfInBounds_toArray, List.set_cons_zero, List.set_cons_succ]
  refine wpTr_one ?_
  refine stepTr_K (by simp only [List.getElem?_toArray, List.getElem?_cons_zero, List.getElem?_cons_succ]; rfl) (by rfl) (fun K hK => ?_)
  go_simp
  obtain ⟨b, hb, HS, HC, q1, q2⟩ : ∃ b, b = d.alloc (.cells #[.int .i64 (cmp3 x.1 y.1), .int .i64 (cmp3 x.2 y.2)] 3) ∧ Hid ((fun w' => (Below w.heap.size w w' ∧ w.drawn ≤ w'.drawn) ∧ Blk w' w.heap.size 71 #[.int .i64 x.1, .int .i64 x.2] ∧ Blk w' (w.heap.size + 1) 71 #[.int .i64 y.1, .int .i64 y.2]) b) ∧ Hid (d.heap.size = d.heap.size) ∧ b.cell? ⟨d.heap.size, 0, none⟩ = some (.int .i64 (cmp3 x.1 y.1)) ∧ b.cell? ⟨d.heap.size, 1, none⟩ = some (.int .i64 (cmp3 x.2 y.2)) := ⟨_, rfl, ⟨⟨HS.out.1.1.alloc HS.out.1.1.size _, HS.out.1.2⟩, HS.out.2.1.alloc _, HS.out.2.2.alloc _⟩, rfl, (Blk.new d _ _).cell 0, (Blk.new d _ _).cell 1⟩
  rw [← hb]
  clear hb
  refine hK.out _ _ HS.out ?_
  clear hK K
  try simp only [Act.put, List.setIfInBounds_toArray, List.set_cons_zero, List.set_cons_succ]
  refine wpTr_one ?_
  refine stepTr_K (by simp only [List.getElem?_toArray, List.getElem?_cons_zero, List.getElem?_cons_succ]; rfl) (by rfl) (fun K hK => ?_)
  go_simp
  refine (or2_any _ _ _ _ q1 q2 _ HV.out).mono ?_
  rintro e w2 ⟨rfl, hw⟩
  obtain rfl : b = w2 := hw.symm
  try go_simp
  refine hK.out _ _ HS.out ?_
  clear hK K
  try simp only [Act.put, List.setIfInBounds_toArray, List.set_cons_zero, List.set_cons_succ]
  repeat (first
    | (refine wpTr_fskip (by simp only [List.getElem?_toArray, List.getElem?_cons_zero, List.getElem?_cons_succ]; rfl) (by rfl) ?_
       simp only [Act.put, List.setIfInBounds_toArray, List.set_cons_zero, List.set_cons_succ])
    | (refine wpTr_float (v := ?_) (by simp only [List.getElem?_toArray, List.getElem?_cons_zero, List.getElem?_cons_succ]; rfl) (by rfl) (fun w' hS => ?_) ?_
       rotate_left
       (obtain ⟨-, hS1, hS2⟩ := hS; have e1 := hS1.cell 0; have e2 := hS1.cell 1; have e3 := hS2.cell 0; have e4 := hS2.cell 1; go_simp; first | done | rfl)
       simp only [Act.put, List.setIfInBounds_toArray, List.set_cons_zero, List.set_cons_succ]))
  refine wpTr_done ?_
  go_wp2
  go_ret
  exact ⟨rfl, HS.out.1⟩
end Go.Proofs.Ytjohoohdjlajcaa
