/-
  law01.awake: a walk.
-/
import Derived.Test.YthljjfanmoeegaaDoorProg
import Derived.Test.YthljjfanmoeegaaDoorBase
import Derived.Test.YthljjfanmoeegaaDoorCp3
import Derived.Test.YthljjfanmoeegaaDoorCp4
import Derived.WalkKit
import Derived.Outline
namespace Go.Proofs.YthljjfanmoeegaaDoor
open Go.RowKit Go.UtYthljjfanmoeegaaDoor
theorem ccompare_b (A A' : Option Addr) (c c' B : Nat) (xs ys : List Int) (w : World) (hx : Row w B A (ints xs)) (hy : Row w B A' (ints ys)) (lx : xs.length ≤ maxLen) (ly : ys.length ≤ maxLen) (v : Int) (hv : cmpL xs ys = v) :
    Calls Tryd.prog 16 #[.slice A xs.length c, .slice A' ys.length c'] w fun e w' => e = .returned (.int .i64 v) ∧ Below w.heap.size w w' :=
  (ccompare_any A A' c c' B xs ys w hx hy lx ly).mono fun _ _ ⟨he, n, hw⟩ => ⟨hv ▸ he, hw ▸ below_drewN (Below.refl _ _) n⟩
theorem cequal_b (A A' : Option Addr) (c c' B : Nat) (xs ys : List Int) (w : World) (hx : Row w B A (ints xs)) (hy : Row w B A' (ints ys)) (lx : xs.length ≤ maxLen) (ly : ys.length ≤ maxLen) (v : Bool) (hv : decide (xs = ys) = v) :
    Calls Tryd.prog 18 #[.slice A xs.length c, .slice A' ys.length c'] w fun e w' => e = .returned (.bool v) ∧ Below w.heap.size w w' :=
  (cequal_v A A' _ _ c c' B xs ys w hx hy rfl rfl lx ly v hv).mono fun _ _ ⟨he, n, hw⟩ => ⟨he, hw ▸ below_drewN (Below.refl _ _) n⟩
set_option maxHeartbeats 1000000 in
theorem awake_any (w : World) (hd : Digs w) : Calls Tryd.prog 13 #[] w fun e w' => e = .returned (.bool true) ∧ Below w.heap.size w w' := by
  have HD := Lib.hid hd
  clear hd
  go_enter Tryd.func13, Tryd.ntmps13
  go_wp2_with fail
  refine (parse_any [49, 48, 70, 70, 70, 70] w HD.out (by simp [maxLen]) 1114111 0 (by decide +kernel)).mono ?_
  rintro e w1 ⟨rfl, hb1⟩
  have HB1 := Lib.hid hb1
  have HD1 := Lib.hid (HD.out.below hb1)
  clear hb1 HD
  go_wp2_with fail
  refine (parse_any [48, 52, 49] w1 HD1.out (by simp [maxLen]) 0 3 (by decide +kernel)).mono ?_
  rintro e w2 ⟨rfl, hb2⟩
  have HB2 := Lib.hid (below_then HB1.out hb2 (Nat.le_refl _))
  have HD2 := Lib.hid (HD1.out.below hb2)
  clear hb2 HD1 HB1
  go_wp2_with fail
  refine (parse_any [48, 48, 48, 52, 49] w2 HD2.out (by simp [maxLen]) 0 3 (by decide +kernel)).mono ?_
  rintro e w3 ⟨rfl, hb3⟩
  have HB3 := Lib.hid (below_then HB2.out hb3 (Nat.le_refl _))
  have HD3 := Lib.hid (HD2.out.below hb3)
  clear hb3 HD2 HB2
  go_wp2_with fail
  refine (hex_any 65 w3 HD3.out [48, 48, 52, 49] (by decide +kernel)).mono ?_
  rintro e w4 ⟨rfl, hb4⟩
  have HB4 := Lib.hid (below_then HB3.out hb4 (Nat.le_refl _))
  clear hb4 HD3 HB3
  go_wp2_with fail
  have i0 := (Blk.new w4 3 #[.int .i64 1]).alloc (.cells #[.int .i64 1, .int .i64 0] 3)
  have i1 := Blk.new (w4.alloc (.cells #[.int .i64 1] 3)) 3 #[.int .i64 1, .int .i64 0]
  rw [show (w4.alloc (.cells #[.int .i64 1] 3)).heap.size = w4.heap.size + 1 by simp] at i1
  refine (ccompare_b (some ⟨w4.heap.size, 0, none⟩) (some ⟨w4.heap.size + 1, 0, none⟩) 1 2 _ [1] [1, 0] _ (i0.row rfl) (i1.row rfl) (by simp [maxLen]) (by simp [maxLen]) (-1) (by decide)).mono ?_
  rintro e w5 ⟨rfl, hb5⟩
  have HB5 := Lib.hid (below_then HB4.out ((((Below.refl w4.heap.size w4).alloc (Nat.le_refl _) _).alloc (by simp) _).trans (hb5.mono (by simp; omega))) (Nat.le_refl _))
  clear hb5 i0 i1 HB4
  go_wp2
  go_ret
  exact ⟨rfl, HB5.out⟩
end Go.Proofs.YthljjfanmoeegaaDoor
