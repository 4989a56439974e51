/-
  Apply, Invert and Merge, of the program and of the reference, for every edit: one contract each.
-/
import Derived.Test.YtmiebgejmiadlaaEd2
import Derived.Test.YtmiebgejmiadlaaEd3
import Derived.Test.YtmiebgejmiadlaaEd4
import Derived.Test.YtmiebgejmiadlaaEd5
import Derived.Test.YtmiebgejmiadlaaEd8
namespace Go.Proofs.Ytmiebgejmiadlaa
open Go.RowKit Go.UtYtmiebgejmiadlaa
/-- what Apply returns -/
def appZ (x y : Int) (ins text : List Int) : List Int × Int :=
  if checkB x y text.length = 1 then ([], 1) else (text.take x.toNat ++ ins ++ text.drop (x.toNat + y.toNat), 0)
/-- what Invert returns: At, Del, Ins and the code -/
def invZ (x y : Int) (n : Nat) (text : List Int) : Int × Int × List Int × Int :=
  if checkB x y text.length = 1 then (0, 0, [], 1) else (x, n, (text.drop x.toNat).take y.toNat, 0)
/-- what Merge returns: At, Del, Ins, and whether -/
def merZ (x y u v : Int) (ins fins : List Int) : Int × Int × List Int × Bool :=
  if mergeable x y u v ins.length then (x, y, ins.take (u - x).toNat ++ fins ++ ins.drop ((u - x).toNat + v.toNat), true) else (0, 0, [], false)
theorem apply_all (x y : Int) (A T : Option Addr) (c tc B : Nat) (ins text : List Int) (w : World) (hA : Row w B A (ints ins)) (hT : Row w B T (ints text)) (hB : B ≤ w.heap.size)
    (htc : text.length ≤ tc) (hl : text.length + ins.length ≤ 60000) (r : List Int) (code : Int) (hr : appZ x y ins text = (r, code)) :
    Calls Try.prog 22 #[.agg #[.int .i64 x, .int .i64 y, .slice A ins.length c], .slice T text.length tc] w (RetInts2 w r code) := by
  unfold appZ at hr
  by_cases h : checkB x y text.length = 1
  · rw [if_pos h, Prod.mk.injEq] at hr
    obtain ⟨rfl, rfl⟩ := hr
    exact apply_no x y A T ins.length c tc text.length w h
  · rw [if_neg h, Prod.mk.injEq] at hr
    obtain ⟨hr1, rfl⟩ := hr
    obtain ⟨i, d, rfl, rfl, hid⟩ := checkB_nat (by omega) h
    exact apply_ok i d A T c tc B ins text r w hA hT hB htc hid hl hr1
theorem apply2_all (x y : Int) (A T : Option Addr) (c tc B : Nat) (ins text : List Int) (w : World) (hA : Row w B A (ints ins)) (hT : Row w B T (ints text)) (hB : B ≤ w.heap.size)
    (htc : text.length ≤ tc) (hl : text.length + ins.length ≤ 60000) (r : List Int) (code : Int) (hr : appZ x y ins text = (r, code)) :
    Calls Try.prog 23 #[.agg #[.int .i64 x, .int .i64 y, .slice A ins.length c], .slice T text.length tc] w (RetInts2 w r code) := by
  unfold appZ at hr
  by_cases h : checkB x y text.length = 1
  · rw [if_pos h, Prod.mk.injEq] at hr
    obtain ⟨rfl, rfl⟩ := hr
    exact apply2_no x y A T ins.length c tc text.length w h
  · rw [if_neg h, Prod.mk.injEq] at hr
    obtain ⟨hr1, rfl⟩ := hr
    obtain ⟨i, d, rfl, rfl, hid⟩ := checkB_nat (by omega) h
    exact apply2_ok i d A T c tc B ins text r w hA hT hB htc hid hl hr1
theorem invert_all (x y : Int) (A T : Option Addr) (n c tc B : Nat) (text : List Int) (w : World) (hT : Row w B T (ints text)) (hB : B ≤ w.heap.size)
    (htc : text.length ≤ tc) (hl : text.length ≤ 60000) (u v : Int) (r : List Int) (code : Int) (hr : invZ x y n text = (u, v, r, code)) :
    Calls Try.prog 26 #[.agg #[.int .i64 x, .int .i64 y, .slice A n c], .slice T text.length tc] w (RetEdit2 w u v r (.int .i64 code)) := by
  unfold invZ at hr
  by_cases h : checkB x y text.length = 1
  · rw [if_pos h, Prod.mk.injEq, Prod.mk.injEq, Prod.mk.injEq] at hr
    obtain ⟨rfl, rfl, rfl, rfl⟩ := hr
    exact invert_no x y A T n c tc text.length w h
  · rw [if_neg h, Prod.mk.injEq, Prod.mk.injEq, Prod.mk.injEq] at hr
    obtain ⟨rfl, rfl, hr1, rfl⟩ := hr
    obtain ⟨i, d, rfl, rfl, hid⟩ := checkB_nat (by omega) h
    exact invert_ok i d A T n c tc B text r w hT hB htc hid hl hr1
theorem invert2_all (x y : Int) (A T : Option Addr) (n c tc B : Nat) (text : List Int) (w : World) (hT : Row w B T (ints text)) (hB : B ≤ w.heap.size)
    (htc : text.length ≤ tc) (hl : text.length ≤ 60000) (u v : Int) (r : List Int) (code : Int) (hr : invZ x y n text = (u, v, r, code)) :
    Calls Try.prog 27 #[.agg #[.int .i64 x, .int .i64 y, .slice A n c], .slice T text.length tc] w (RetEdit2 w u v r (.int .i64 code)) := by
  unfold invZ at hr
  by_cases h : checkB x y text.length = 1
  · rw [if_pos h, Prod.mk.injEq, Prod.mk.injEq, Prod.mk.injEq] at hr
    obtain ⟨rfl, rfl, rfl, rfl⟩ := hr
    exact invert2_no x y A T n c tc text.length w h
  · rw [if_neg h, Prod.mk.injEq, Prod.mk.injEq, Prod.mk.injEq] at hr
    obtain ⟨rfl, rfl, hr1, rfl⟩ := hr
    obtain ⟨i, d, rfl, rfl, hid⟩ := checkB_nat (by omega) h
    exact invert2_ok i d A T n c tc B text r w hT hB htc hid hl hr1
theorem merge_all (x y u v : Int) (A F : Option Addr) (c fc B : Nat) (ins fins : List Int) (w : World) (hA : Row w B A (ints ins)) (hF : Row w B F (ints fins)) (hB : B ≤ w.heap.size)
    (hc : ins.length ≤ c) (hl : ins.length + fins.length ≤ 60000) (hx : x ≤ 9223372036854775807) (hu : u ≤ 9223372036854775807) (a b : Int) (r : List Int) (t : Bool) (hr : merZ x y u v ins fins = (a, b, r, t)) :
    Calls Try.prog 20 #[.agg #[.int .i64 x, .int .i64 y, .slice A ins.length c], .agg #[.int .i64 u, .int .i64 v, .slice F fins.length fc]] w (RetEdit2 w a b r (.bool t)) := by
  unfold merZ at hr
  by_cases h : mergeable x y u v ins.length
  · rw [if_pos h, Prod.mk.injEq, Prod.mk.injEq, Prod.mk.injEq] at hr
    obtain ⟨rfl, rfl, hr1, rfl⟩ := hr
    obtain ⟨h1, h2, h3, h4, h5, h6⟩ := h
    obtain ⟨x', rfl⟩ := Int.eq_ofNat_of_zero_le h1
    obtain ⟨y', rfl⟩ := Int.eq_ofNat_of_zero_le h2
    obtain ⟨v', rfl⟩ := Int.eq_ofNat_of_zero_le h5
    obtain ⟨k, rfl⟩ : ∃ k : Nat, u = (x' : Int) + k := ⟨(u - x').toNat, by omega⟩
    have e : ((x' : Int) + k - x').toNat = k := by omega
    rw [e, Int.toNat_natCast] at hr1
    exact merge_ok x' y' k v' A F c fc B ins fins r w hA hF hB hc (by omega) (by omega) hl hr1
  · rw [if_neg h, Prod.mk.injEq, Prod.mk.injEq, Prod.mk.injEq] at hr
    obtain ⟨rfl, rfl, rfl, rfl⟩ := hr
    exact merge_no x y u v A F ins.length c fins.length fc w (by omega) hx hu h
theorem merge2_all (x y u v : Int) (A F : Option Addr) (c fc B : Nat) (ins fins : List Int) (w : World) (hA : Row w B A (ints ins)) (hF : Row w B F (ints fins)) (hB : B ≤ w.heap.size)
    (hc : ins.length ≤ c) (hl : ins.length + fins.length ≤ 60000) (hx : x ≤ 9223372036854775807) (hu : u ≤ 9223372036854775807) (a b : Int) (r : List Int) (t : Bool) (hr : merZ x y u v ins fins = (a, b, r, t)) :
    Calls Try.prog 21 #[.agg #[.int .i64 x, .int .i64 y, .slice A ins.length c], .agg #[.int .i64 u, .int .i64 v, .slice F fins.length fc]] w (RetEdit2 w a b r (.bool t)) := by
  unfold merZ at hr
  by_cases h : mergeable x y u v ins.length
  · rw [if_pos h, Prod.mk.injEq, Prod.mk.injEq, Prod.mk.injEq] at hr
    obtain ⟨rfl, rfl, hr1, rfl⟩ := hr
    obtain ⟨h1, h2, h3, h4, h5, h6⟩ := h
    obtain ⟨x', rfl⟩ := Int.eq_ofNat_of_zero_le h1
    obtain ⟨y', rfl⟩ := Int.eq_ofNat_of_zero_le h2
    obtain ⟨v', rfl⟩ := Int.eq_ofNat_of_zero_le h5
    obtain ⟨k, rfl⟩ : ∃ k : Nat, u = (x' : Int) + k := ⟨(u - x').toNat, by omega⟩
    have e : ((x' : Int) + k - x').toNat = k := by omega
    rw [e, Int.toNat_natCast] at hr1
    exact merge2_ok x' y' k v' A F c fc B ins fins r w hA hF hB hc (by omega) (by omega) hl hr1
  · rw [if_neg h, Prod.mk.injEq, Prod.mk.injEq, Prod.mk.injEq] at hr
    obtain ⟨rfl, rfl, rfl, rfl⟩ := hr
    exact merge2_no x y u v A F ins.length c fins.length fc w (by omega) hx hu h
end Go.Proofs.Ytmiebgejmiadlaa
