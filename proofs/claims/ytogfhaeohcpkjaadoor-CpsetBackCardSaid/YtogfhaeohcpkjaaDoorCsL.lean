/-
  Layer 02: how a set comes in as an argument; the variables that the rows list; the world of the witness.
-/
import Derived.Test.YtogfhaeohcpkjaaDoorRows
import Derived.Test.YtogfhaeohcpkjaaDoorCs14
import Derived.Test.YtogfhaeohcpkjaaDoorLsn
import Derived.Test.YtogfhaeohcpkjaaDoorLift
import Derived.ProofKit
import Derived.OpenShut
import Derived.Deep.DeepHandedRow
import Derived.Lib.LaidTab
import Derived.Stop.LaidErr
import Derived.Shelf.Vars
namespace Go.Proofs.YtogfhaeohcpkjaaDoor
open Go.ChangeShapes Go.WideShapes Go.ChangeAt Go.RowKit Go.UtYtogfhaeohcpkjaaDoor Go.Joins
theorem own : ownKnob Tryd.prog.godebug = none := by kernel_rfl
theorem laidOut : laidOutB Tryd.prog = true := by kernel_rfl
theorem Blk.at_new {w : World} {g : Nat} {t : TypeId} {cs : Array Value} (h : g = w.heap.size) : Blk (w.alloc (.cells cs t)) g t cs := by
  subst h
  exact Blk.new w t cs
theorem has_nil (x : Int) : hasP [] x ↔ False := ⟨fun h => memR_nil h.2, False.elim⟩
theorem flat_rgs {l : List Rg} {vss : List (List Value)} (hl : vss.length = l.length) (h : ∀ (k : Nat) (a : Rg), l[k]? = some a → ∃ cs, vss[k]? = some cs ∧ cs = [.int .i64 a.1, .int .i64 a.2]) : vss.flatten = rgs l := by
  induction l generalizing vss with
  | nil =>
    obtain rfl : vss = [] := List.eq_nil_of_length_eq_zero (by simpa using hl)
    rfl
  | cons r l ih =>
    cases vss with
    | nil => simp at hl
    | cons cs vss =>
      obtain ⟨cs', h1, h2⟩ := h 0 r rfl
      simp at h1
      subst h1
      rw [List.flatten_cons, ih (by simpa using hl) (fun k a hk => by simpa using h (k + 1) a (by simpa using hk)), h2]
      simp [rgs]
section
variable {H : Type} {enc : TypeId × Value → H}
set_option maxRecDepth 100000 in
theorem open_set {W : World} {base : Nat} {v : Value} {d : DataW H} {p : List MemPlace} (hv : Value.okWide Tryd.prog W .any base 24 v) (h : DataW.Trod enc Tryd.prog W 0 (fun _ => true) true 24 v d p) :
    ∃ (A : Option Addr) (c : Nat) (l : List Rg), v = .agg #[.slice A l.length c] ∧ l.length ≤ c ∧ c ≤ maxLen ∧ Row W W.heap.size A (rgs l) := by
  obtain ⟨v0, y0, n, rfl, -, -, h0⟩ := open_agg1 (f0 := ⟨ "Ranges", 22, 0, false, "", "", 0⟩) Tryd.underlying24 rfl (by kernel_rfl) (by kernel_rfl) hv h
  obtain ⟨A, c, l, vss, rfl, h1, h2, h3, h4, h5, h6⟩ := open_listN (fun cs (r : Rg) => cs = [.int .i64 r.1, .int .i64 r.2]) (sz := 2) (by omega) Tryd.underlying22 (by kernel_rfl) (fun n cs x hx => by
    obtain ⟨y0, y1, m, -, hl, g0, g1⟩ := trod_struct2 (f0 := ⟨ "Lo", 3, 0, false, "", "", 0⟩) (f1 := ⟨ "Hi", 3, 1, false, "", "", 8⟩) Tryd.underlying37 hx
    have hc : Tryd.prog.cellsOf 37 = 2 := by kernel_rfl
    have hi : Tryd.prog.cellsOf 3 = 1 := by kernel_rfl
    rw [hc] at hl
    match cs, hl with
    | [a, b], _ =>
      simp only [hi, List.drop_zero, List.take_succ_cons, List.take_zero, List.drop_succ_cons] at g0 g1
      obtain ⟨z0, e0, _⟩ := DataW.trod_int Tryd.underlying3 g0
      obtain ⟨z1, e1, _⟩ := DataW.trod_int Tryd.underlying3 g1
      exact ⟨(z0, z1), by rw [List.cons.inj e0 |>.1, List.cons.inj e1 |>.1]⟩) h0
  exact ⟨A, c, l, rfl, h1, h2, by rw [← flat_rgs h3 h6]; exact h5⟩
end
theorem gTab : Tryd.prog.globalNamed "unicodetext/codepoint.digits" = some 0 := by kernel_rfl
theorem gTabType : (Tryd.prog.globals[0]?).map (·.type) = some 75 := by kernel_rfl
theorem cellsA : Tryd.prog.cellsOf 75 = 16 := by kernel_rfl
theorem cellsB : Tryd.prog.cellsOf 5 = 1 := by kernel_rfl
def laidAll : List (String × DataW Unit) := [("unicode/utf8.acceptRanges", Rows.laid_unicode_utf8_acceptRanges), ("unicodetext/codepoint.digits", Rows.laid_unicodetext_codepoint_digits), ("unicode/utf8.first", Rows.laid_unicode_utf8_first)]
theorem table {W : World} (h : laidMetH Tryd.prog laidAll W) : Lib.TabIs Tryd.prog W "unicodetext/codepoint.digits" .u8 [48, 49, 50, 51, 52, 53, 54, 55, 56, 57, 65, 66, 67, 68, 69, 70] :=
  Lib.tabIs_of_head (rest := [("unicode/utf8.first", Rows.laid_unicode_utf8_first)]) gTab gTabType Tryd.underlying75 Tryd.underlying5 cellsB cellsA (laidMet.tail h)
theorem digs {W : World} (h : laidMetH Tryd.prog laidAll W) : Digs W := by
  have hc : ∀ d, d < 16 → W.cell? ⟨0, d, none⟩ = some (.int .u8 ((dg d).toNat : Int)) := fun d hd => by
    have e : ∀ d, d < 16 → ([48, 49, 50, 51, 52, 53, 54, 55, 56, 57, 65, 66, 67, 68, 69, 70] : List Int)[d]? = some ((dg d).toNat : Int) := by decide
    have h1 := (table h).cell gTab d (by simpa using hd)
    rw [h1]
    have h2 := e d hd
    simp only [List.getD, h2, Option.getD_some]
  exact ⟨World.block_lt_of_cell? W ⟨0, 0, none⟩ (hc 0 (by omega)), hc⟩
theorem maxl {W : World} (h : W.ShapedOpen Tryd.prog) : MaxL W := by
  obtain ⟨m, hm⟩ := cell_of_shapedOpen_int (P := Tryd.prog) (g := 1) (t := 3) (zero := #[.int .i64 0]) (k := .i64) h (of_decide_eq_true (by kernel_rfl)) (by kernel_rfl) rfl (by kernel_rfl) (by kernel_rfl) Tryd.underlying3
  exact ⟨World.block_lt_of_cell? W ⟨1, 0, none⟩ hm, m, hm⟩
noncomputable def laidWorld (os : Os) : World :=
  { World.holding Tryd.prog os ⟨#[], #[], []⟩ with heap := ((((World.holding Tryd.prog os ⟨#[], #[], []⟩).heap.modify 0 fun
      | .cells _ t frozen => .cells #[.int .u8 48, .int .u8 49, .int .u8 50, .int .u8 51, .int .u8 52, .int .u8 53, .int .u8 54, .int .u8 55, .int .u8 56, .int .u8 57, .int .u8 65, .int .u8 66, .int .u8 67, .int .u8 68, .int .u8 69, .int .u8 70] t frozen
      | o => o).modify 2 fun
      | .cells _ t frozen => .cells (Go.Pinned.utf8FirstZ.map fun (n : Nat) => Value.int .u8 (n : Int)).toArray t frozen
      | o => o).modify 3 fun
      | .cells _ t frozen => .cells ([128, 191, 160, 191, 128, 159, 144, 191, 128, 143, 0, 0, 0, 0, 0, 0, 0, 0, 0, 0, 0, 0, 0, 0, 0, 0, 0, 0, 0, 0, 0, 0].map fun n => Value.int .u8 n).toArray t frozen
      | o => o) }
theorem laid_met (os : Os) (args : Array Value) : laidMet Tryd.prog laidAll ((laidWorld os).forCall (fun _ _ => 0) ⟨#[], args, []⟩).memory :=
  laidMet_of_run' 8 (by kernel_rfl) (by kernel_rfl)
end Go.Proofs.YtogfhaeohcpkjaaDoor
