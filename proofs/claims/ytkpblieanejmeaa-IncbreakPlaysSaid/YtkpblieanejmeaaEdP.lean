/-
  Plain facts on lists for the laws of edits.
-/
import Derived.Test.YtkpblieanejmeaaLcp
namespace Go.UtYtkpblieanejmeaa
theorem undo_text (t ins : List Int) (i d : Nat) (h : i + d ≤ t.length) :
    (t.take i ++ ins ++ t.drop (i + d)).take i ++ (t.drop i).take d ++ (t.take i ++ ins ++ t.drop (i + d)).drop (i + ins.length) = t := by
  have e1 : (t.take i ++ ins ++ t.drop (i + d)).take i = t.take i := by
    rw [List.append_assoc, List.take_append_of_le_length (by simp; omega), List.take_take, Nat.min_self]
  have e2 : (t.take i ++ ins ++ t.drop (i + d)).drop (i + ins.length) = t.drop (i + d) := by
    rw [List.drop_append, List.drop_eq_nil_of_le (by simp; omega), List.nil_append]
    have : i + ins.length - (t.take i ++ ins).length = 0 := by simp; omega
    rw [this, List.drop_zero]
  rw [e1, e2, List.append_assoc]
  have e3 : (t.drop i).take d ++ t.drop (i + d) = t.drop i := by
    rw [← List.drop_drop]; exact List.take_append_drop d _
  rw [e3]
  exact List.take_append_drop i t
theorem undo_ins (t ins : List Int) (i d : Nat) (h : i + d ≤ t.length) : ((t.take i ++ ins ++ t.drop (i + d)).drop i).take ins.length = ins := by
  rw [List.append_assoc, List.drop_append, List.drop_eq_nil_of_le (by simp; omega), List.nil_append]
  have : i - (t.take i).length = 0 := by simp; omega
  rw [this, List.drop_zero, List.take_append_of_le_length (Nat.le_refl _), List.take_length]
theorem twice_text (t ins fins : List Int) (i d k d2 : Nat) (h : i + d ≤ t.length) (h2 : k + d2 ≤ ins.length) :
    (t.take i ++ ins ++ t.drop (i + d)).take (i + k) ++ fins ++ (t.take i ++ ins ++ t.drop (i + d)).drop (i + k + d2) = t.take i ++ (ins.take k ++ fins ++ ins.drop (k + d2)) ++ t.drop (i + d) := by
  have hl : (t.take i).length = i := by simp; omega
  have e1 : (t.take i ++ ins ++ t.drop (i + d)).take (i + k) = t.take i ++ ins.take k := by
    rw [List.append_assoc, List.take_append, List.take_of_length_le (by omega), hl]
    congr 1
    rw [show i + k - i = k by omega, List.take_append_of_le_length (by omega)]
  have e2 : (t.take i ++ ins ++ t.drop (i + d)).drop (i + k + d2) = ins.drop (k + d2) ++ t.drop (i + d) := by
    rw [List.append_assoc, List.drop_append, List.drop_eq_nil_of_le (by omega), List.nil_append, hl]
    rw [show i + k + d2 - i = k + d2 by omega, List.drop_append_of_le_length (by omega)]
  rw [e1, e2]
  simp [List.append_assoc]
end Go.UtYtkpblieanejmeaa
