/-
  Keys of the trie's map.
-/
import Derived.Test.YtledbiabdiijhaaProg
import Derived.Test.YtledbiabdiijhaaMk2
import Derived.Test.YtledbiabdiijhaaCs2
import Derived.WalkKit
import Derived.KernelRfl
namespace Go.Proofs.Ytledbiabdiijhaa
open Go.RowKit Go.UtYtledbiabdiijhaa
theorem link_held : Try.prog.stoodInHeld 74 = false := by kernel_rfl
theorem link_fields : (Try.prog.fieldsOf 74).toList = [⟨ "node", 3, 0, false, "", "unicodetext/transduce", 0⟩, ⟨ "code", 3, 1, false, "", "unicodetext/transduce", 8⟩] := by kernel_rfl
theorem link_und : Try.prog.underlying 74 = some (.struct #[⟨ "node", 3, 0, false, "", "unicodetext/transduce", 0⟩, ⟨ "code", 3, 1, false, "", "unicodetext/transduce", 8⟩]) := by kernel_rfl
theorem link_eq (w : World) (a b c d : Int) : (Op.equal 74 (key2 a b) (key2 c d)).run Try.prog w = .ok (a == c && b == d) w := by
  unfold Op.equal key2
  rw [show Op.maxDepth = 9999 + 1 by rfl, run_equalIn_agg w _ _ _ _ (by kernel_rfl) link_held, link_fields]
  simp [go_sem]
  by_cases h : a = c <;> by_cases h' : b = d <;> simp [h, h']
theorem chk_int (w : World) (e : Bool) (n : Nat) (a : Int) : (Instr.checkKey e (n + 1) 3 (.int .i64 a)).run Try.prog w = .ok () w := by
  rw [Instr.checkKey]
  simp [Sem.run_bind, run_underlying Try.underlying3]
theorem link_chk (w : World) (e : Bool) (a b : Int) : (Instr.checkKey e 10000 74 (key2 a b)).run Try.prog w = .ok () w := by
  unfold key2
  rw [show (10000 : Nat) = (9998 + 1) + 1 by rfl, Instr.checkKey]
  simp only [Sem.run_bind, run_underlying link_und, Result.andThen_ok]
  simp [go_sem, chk_int]
theorem link_k2 : K2 Try.prog 74 := ⟨⟨_, link_und⟩, link_eq, link_chk⟩
theorem map_zero (w : World) : (zeroValue 3).run Try.prog w = .ok (.int .i64 0) w := by
  simp [go_sem]
end Go.Proofs.Ytledbiabdiijhaa
