/-
  law02.alive, law02.small: walks.
-/
import Derived.Test.YtogfhaeohcpkjaaDoorProg
import Derived.Test.YtogfhaeohcpkjaaDoorCs13
import Derived.Test.YtogfhaeohcpkjaaDoorCs9
import Derived.Test.YtogfhaeohcpkjaaDoorCs3
import Derived.WalkKit
import Derived.KernelRfl
import Derived.Outline
import Derived.IntWalk
namespace Go.Proofs.YtogfhaeohcpkjaaDoor
open Go.RowKit Go.UtYtogfhaeohcpkjaaDoor
theorem has_iff (l : List Rg) (r : List Rg) (hr : Cnn r) (h : ∀ x, 0 ≤ x → x ≤ 1114111 → (memR l x ↔ memR r x)) {m : List Rg} (hm : Cnn m) (hh : ∀ x, hasP m x ↔ hasP l x) : m = r :=
  can_eq hm hr fun x => (hh x).trans ⟨fun ⟨h1, h2⟩ => ⟨h1, (h x h1.1 h1.2).1 h2⟩, fun ⟨h1, h2⟩ => ⟨h1, (h x h1.1 h1.2).2 h2⟩⟩
theorem al_make {m : List Rg} (hm : Cnn m) (hh : ∀ x, hasP m x ↔ hasP [(5, 7), (8, 8), (3, 2)] x) : m = [(5, 8)] :=
  has_iff _ [(5, 8)] ⟨by simp, by simp, by simp, trivial⟩ (fun x _ _ => by simp [memR]; omega) hm hh
theorem al_parse {r : List Rg} {f : Int} (h : ParseOut [48, 48, 52, 49, 32, 48, 48, 52, 50] r f) : f = 3 := by
  rcases h with ⟨_, hc, ht⟩ | ⟨h, _⟩
  · have hp : (chop 32 [48, 48, 52, 49, 32, 48, 48, 52, 50]).map pOne = [((65 : Int), (65 : Int)), (66, 66)].map some := by decide +kernel
    have := parse_ps (fun r => pOne_word) (by simp) hp hc ht
    subst this
    have := hc.2.2.2.1
    simp at this
  · exact h
theorem al_can : Cnn [(65, 90), (97, 97)] := ⟨by simp, by simp, by simp, by simp, by simp, by simp, trivial⟩
theorem al_text : textR [(65, 90), (97, 97)] = [48, 48, 52, 49, 46, 46, 48, 48, 53, 65, 32, 48, 48, 54, 49] := by decide +kernel
theorem al_not {m : List Rg} (hm : Cnn m) (hh : ∀ x, hasP m x ↔ (codeP x ∧ ¬ hasP [] x)) : m = [(0, 1114111)] :=
  can_eq hm ⟨by simp, by simp, by simp, trivial⟩ fun x => (hh x).trans ⟨fun ⟨h1, _⟩ => ⟨h1, (0, 1114111), by simp, h1⟩, fun ⟨h1, _⟩ => ⟨h1, fun h => memR_nil h.2⟩⟩
theorem ret_iff {l m : List Rg} (hl : Cnn l) (hm : Cnn m) (h : ∀ x, hasP m x ↔ hasP l x) : m = l := can_eq hm hl h
theorem row_rgs (w : World) (t : TypeId) (l : List Rg) : Row (w.alloc (.cells (rgs l).toArray t)) (w.heap.size + 1) (some ⟨w.heap.size, 0, none⟩) (rgs l) := row_lit w t (rgs l)
theorem row_rg2 (w : World) (t : TypeId) (l : List Rg) (cs : Array Value) (h : cs = (rgs l).toArray) : Row (w.alloc (.cells cs t)) (w.alloc (.cells cs t)).heap.size (some ⟨w.heap.size, 0, none⟩) (rgs l) := by
  subst h
  simpa using row_rgs w t l
set_option maxRecDepth 100000 in
set_option maxHeartbeats 2000000 in
theorem alive_any (w : World) (hd : Digs w) (hm : MaxL w) : Calls Tryd.prog 14 #[] w fun e w' => e = .returned (.bool true) ∧ Below w.heap.size w w' := by
  have HD := Lib.hid hd
  have HM := Lib.hid hm
  clear hd hm
  obtain ⟨w1, h1, HB1, HR1⟩ : ∃ w1, w1 = w.alloc (.cells #[.int .i64 5, .int .i64 7, .int .i64 8, .int .i64 8, .int .i64 3, .int .i64 2] 37) ∧ Hid (Below w.heap.size w w1) ∧ Hid (Row w1 w1.heap.size (some ⟨w.heap.size, 0, none⟩) (rgs [(5, 7), (8, 8), (3, 2)])) := ⟨_, rfl, (Below.refl _ _).alloc (Nat.le_refl _) _, row_rg2 w _ _ _ rfl⟩
  go_enter Tryd.func14, Tryd.ntmps14
  go_wp2_with fail
  rw [← h1]
  clear h1
  refine (make_any (some ⟨w.heap.size, 0, none⟩) 3 [(5, 7), (8, 8), (3, 2)] w1 HR1.out (by simp)).mono ?_
  rintro e w2 ⟨A2, c2, r2, rfl, hc, hh, hr, hb⟩
  obtain rfl := al_make hc hh
  have HB2 := Lib.hid (HB1.out.trans (hb.mono HB1.out.size))
  have HR2 := Lib.hid hr
  clear hc hh hr hb HB1 HR1
  obtain ⟨w3, h3, HB3, HX3, HT3, HR3, HT4⟩ : ∃ w3, w3 = ((w2.alloc (.cells #[.slice A2 1 c2] 24)).alloc (.cells #[.int .i64 65, .int .i64 90, .int .i64 97, .int .i64 97] 37)).alloc (.cells #[.slice (some ⟨w2.heap.size + 1, 0, none⟩) 2 2] 24) ∧ Hid (Below w.heap.size w w3) ∧ Hid (Blk w3 w2.heap.size 24 #[.slice A2 1 c2]) ∧ Hid (Blk w3 (w2.heap.size + 1 + 1) 24 #[.slice (some ⟨w2.heap.size + 1, 0, none⟩) 2 2]) ∧ Hid (Row w3 w3.heap.size A2 (rgs [(5, 8)])) ∧ Hid (Row w3 w3.heap.size (some ⟨w2.heap.size + 1, 0, none⟩) (rgs [(65, 90), (97, 97)])) := by
    refine ⟨_, rfl, ((HB2.out.alloc HB2.out.size _).alloc (by have := HB2.out.size; simp; omega) _).alloc (by have := HB2.out.size; simp; omega) _, ((Blk.new w2 _ _).alloc _).alloc _, ?_, ?_, ?_⟩
    · have := Blk.new ((w2.alloc (.cells #[.slice A2 1 c2] 24)).alloc (.cells #[.int .i64 65, .int .i64 90, .int .i64 97, .int .i64 97] 37)) 24 #[.slice (some ⟨w2.heap.size + 1, 0, none⟩) 2 2]
      show Blk _ _ _ _
      simpa using this
    · exact (HR2.out.below ((((Below.refl _ w2).alloc (Nat.le_refl _) _).alloc (by simp) _).alloc (by simp; omega) _)).lt
    · have := row_rg2 (w2.alloc (.cells #[.slice A2 1 c2] 24)) 37 [(65, 90), (97, 97)] _ rfl
      rw [World.size_alloc w2] at this
      exact (this.below ((Below.refl _ _).alloc (Nat.le_refl _) _)).lt
  go_wp2_with fail
  rw [← h3]
  clear h3
  refine (parseS_any [48, 48, 52, 49, 32, 48, 48, 52, 50] w3 (by simp) (HD.out.below HB3.out) (HM.out.below HB3.out)).mono ?_
  rintro e w4 ⟨A4, c4, r4, f4, rfl, hpo, hr, hb⟩
  obtain rfl := al_parse hpo
  have HB4 := Lib.hid (HB3.out.trans (hb.mono HB3.out.size))
  have HX4 := Lib.hid (HX3.out.after hb)
  have HY4 := Lib.hid (HT3.out.after hb)
  have HR4 := Lib.hid (HR3.out.below hb).lt
  have HT5 := Lib.hid (HT4.out.below hb).lt
  clear hpo hr hb HB3 HX3 HT3 HR3 HT4 HB2 HR2
  obtain ⟨w5, h5, HB5, HX5, HY5, HR5, HT6, HR6⟩ : ∃ w5, w5 = (w4.alloc (.cells #[.slice A4 r4.length c4] 24)).alloc (.cells #[.int .i64 5, .int .i64 8] 37) ∧ Hid (Below w.heap.size w w5) ∧ Hid (Blk w5 w2.heap.size 24 #[.slice A2 1 c2]) ∧ Hid (Blk w5 (w2.heap.size + 1 + 1) 24 #[.slice (some ⟨w2.heap.size + 1, 0, none⟩) 2 2]) ∧ Hid (Row w5 w5.heap.size A2 (rgs [(5, 8)])) ∧ Hid (Row w5 w5.heap.size (some ⟨w2.heap.size + 1, 0, none⟩) (rgs [(65, 90), (97, 97)])) ∧ Hid (Row w5 w5.heap.size (some ⟨w4.heap.size + 1, 0, none⟩) (rgs [(5, 8)])) := by
    have hbb : Below w4.heap.size w4 ((w4.alloc (.cells #[.slice A4 r4.length c4] 24)).alloc (.cells #[.int .i64 5, .int .i64 8] 37)) := ((Below.refl _ w4).alloc (Nat.le_refl _) _).alloc (by simp) _
    refine ⟨_, rfl, HB4.out.trans (hbb.mono HB4.out.size), HX4.out.after hbb, HY4.out.after hbb, (HR4.out.below hbb).lt, (HT5.out.below hbb).lt, ?_⟩
    have := row_rg2 (w4.alloc (.cells #[.slice A4 r4.length c4] 24)) 37 [(5, 8)] _ rfl
    rw [World.size_alloc w4] at this
    exact this
  have x4 := HX4.out.cell 0
  simp at x4
  have hlt4 := HX4.out.lt
  go_wp2_with fail
  rw [← h5]
  clear h5 x4
  refine (same_any A2 (some ⟨w4.heap.size + 1, 0, none⟩) c2 1 1 1 [(5, 8)] [(5, 8)] rfl rfl w5 HR5.out HR6.out (by simp [maxLen]) (by simp [maxLen]) true (by simp)).mono ?_
  rintro e w6 ⟨rfl, hb⟩
  have HB6 := Lib.hid (HB5.out.trans (hb.mono HB5.out.size))
  have HY6 := Lib.hid (HY5.out.after hb)
  have HT7 := Lib.hid (HT6.out.below hb).lt
  clear hb HB5 HX5 HY5 HR5 HT6 HR6 HX4 HY4 HR4 HT5
  have y6 := HY6.out.cell 0
  simp at y6
  go_wp2_with fail
  refine (text_any (some ⟨w2.heap.size + 1, 0, none⟩) 2 [(65, 90), (97, 97)] w6 (HD.out.below HB6.out) HT7.out (by simp) [48, 48, 52, 49, 46, 46, 48, 48, 53, 65, 32, 48, 48, 54, 49] (fun r h1 h2 => by rw [ret_iff al_can h1 h2]; exact al_text)).mono ?_
  rintro e w7 ⟨rfl, hb⟩
  have HB7 := Lib.hid (HB6.out.trans (hb.mono HB6.out.size))
  clear hb HB6 HY6 HT7 y6
  go_wp2_with fail
  refine (not_any none 0 [] w7 Row.nil (by simp)).mono ?_
  rintro e w8 ⟨A8, c8, r8, rfl, hc, hh, hr, hb⟩
  obtain rfl := al_not hc hh
  have HB8 := Lib.hid (HB7.out.trans (hb.mono HB7.out.size))
  have HR8 := Lib.hid hr
  have HC8 := Lib.hid hc
  clear hb HB7 hr hc hh
  go_wp2_with fail
  refine (count_any A8 c8 [(0, 1114111)] w8 HR8.out (by simp) 1114112 (fun r h1 h2 => by rw [ret_iff HC8.out h1 h2]; rfl)).mono ?_
  rintro e w9 ⟨rfl, hb⟩
  have HB9 := Lib.hid (HB8.out.trans (hb.mono HB8.out.size))
  clear hb
  go_wp2
  go_ret
  exact ⟨rfl, HB9.out⟩
theorem small2_any (A B : Option Addr) (n m c d : Nat) (w : World) (v : Bool) (hv : (decide ((n : Int) ≤ 12) && decide ((m : Int) ≤ 12)) = v) :
    Calls Tryd.prog 13 #[.agg #[.slice A n c], .agg #[.slice B m d]] w fun e w' => e = .returned (.bool v) ∧ Below w.heap.size w w' := by
  have HB0 : Hid (Below w.heap.size w ((w.alloc (.cells #[.slice A n c] 24)).alloc (.cells #[.slice B m d] 24))) := ((Below.refl _ _).alloc (Nat.le_refl _) _).alloc (by simp) _
  have HV := Lib.hid hv
  clear hv
  have HS := Lib.hid ((((Blk.new w 24 #[.slice A n c]).alloc (.cells #[.slice B m d] 24))))
  have HT : Hid (Blk ((w.alloc (.cells #[.slice A n c] 24)).alloc (.cells #[.slice B m d] 24)) (w.heap.size + 1) 24 #[.slice B m d]) := by
    have := Blk.new (w.alloc (.cells #[.slice A n c] 24)) 24 #[.slice B m d]
    show Blk _ _ _ _
    simpa using this
  by_cases h1 : (n : Int) ≤ 12
  · go_enter Tryd.func13, Tryd.ntmps13
    go_wp2_with fail
    refine (small_any A n c _ true (by simpa using h1)).mono ?_
    rintro e w1 ⟨rfl, hb⟩
    have HB1 := Lib.hid (HB0.out.trans (hb.mono HB0.out.size))
    have y1 := (HT.out.after hb).cell 0
    simp at y1
    clear hb
    have HV2 : Hid (decide ((m : Int) ≤ 12) = v) := by show _ = _; rw [← HV.out]; simp [h1]
    go_wp2_with fail
    refine (small_any B m d _ v HV2.out).mono ?_
    rintro e w2 ⟨rfl, hb⟩
    have HB2 := Lib.hid (HB1.out.trans (hb.mono HB1.out.size))
    clear hb
    go_wp2
    go_ret
    exact ⟨rfl, HB2.out⟩
  · have HV2 : Hid (v = false) := by show _ = _; rw [← HV.out]; simp [h1]
    go_enter Tryd.func13, Tryd.ntmps13
    go_wp2_with fail
    refine (small_any A n c _ false (by simpa using h1)).mono ?_
    rintro e w1 ⟨rfl, hb⟩
    have HB1 := Lib.hid (HB0.out.trans (hb.mono HB0.out.size))
    clear hb
    go_wp2
    go_ret
    exact ⟨ret_bool HV2.out.symm, HB1.out⟩
end Go.Proofs.YtogfhaeohcpkjaaDoor
