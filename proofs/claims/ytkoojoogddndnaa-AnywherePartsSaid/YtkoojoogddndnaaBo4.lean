/-
  law31.alive.
-/
import Derived.Test.YtkoojoogddndnaaBo3
import Derived.ChangeKeysEq
namespace Go.Proofs.Ytkoojoogddndnaa
open Go.RowKit Go.UtYtkoojoogddndnaa
theorem exT_val (x : TA) : x.val exT = .agg #[.slice x.c 2 x.cc, .slice x.a 1 x.ca, .slice x.ln 2 x.cln, .slice x.lm 2 x.clm, .slice x.rn 2 x.crn, .slice x.rm 2 x.crm] := rfl
theorem exP_val (x : PA) : x.val exP = .agg #[.slice x.n 2 x.cn, .slice x.s 1 x.cs] := rfl
theorem ex_small : exT.cls.length ≤ 1000 ∧ exT.act.length ≤ 1000 := by decide
/-- what the calls of the example return -/
structure ExC (u : World) (x : TA) (xp : PA) (At : Option Addr) (w0 : World) : Prop where
  sync : Calls Try.prog 12 #[.agg #[.slice x.c 2 x.cc, .slice x.a 1 x.ca, .slice x.ln 2 x.cln, .slice x.lm 2 x.clm, .slice x.rn 2 x.crn, .slice x.rm 2 x.crm]] u (RetT u [(0, 0, 1), (0, 1, 0), (1, 0, 1), (1, 1, 0)])
  start : ∀ A c, Row u u.heap.size A (ints [0, 0, 1]) → Calls Try.prog 15 #[.agg #[.slice x.c 2 x.cc, .slice x.a 1 x.ca, .slice x.ln 2 x.cln, .slice x.lm 2 x.clm, .slice x.rn 2 x.crn, .slice x.rm 2 x.crm], .slice A 3 c, .int .i64 3] u fun e w' => e = .returned (.tuple #[.int .i64 3, .int .i64 0]) ∧ Below u.heap.size u w'
  state : ∀ A c, 2 ≤ c → Row u u.heap.size A (ints [1, 0]) → Calls Try.prog 17 #[.agg #[.slice x.c 2 x.cc, .slice x.a 1 x.ca, .slice x.ln 2 x.cln, .slice x.lm 2 x.clm, .slice x.rn 2 x.crn, .slice x.rm 2 x.crm], .slice A 2 c, .int .i64 2] u fun e w' => e = .returned (.int .i64 1) ∧ Below u.heap.size u w'
  around : Calls Try.prog 20 #[.agg #[.slice xp.n 2 xp.cn, .slice xp.s 1 xp.cs], .agg #[.slice x.c 2 x.cc, .slice x.a 1 x.ca, .slice x.ln 2 x.cln, .slice x.lm 2 x.clm, .slice x.rn 2 x.crn, .slice x.rm 2 x.crm], .slice At 3 3, .int .i64 1] u fun e w' => e = .returned (.tuple #[.agg #[.int .i64 0, .int .i64 2], .bool true]) ∧ Below u.heap.size u w'
  is : ∀ (a : Int) (v : Bool), decide (a ∈ ([0, 2, 3] : List Int)) = v → Calls Try.prog 22 #[.agg #[.slice xp.n 2 xp.cn, .slice xp.s 1 xp.cs], .agg #[.slice x.c 2 x.cc, .slice x.a 1 x.ca, .slice x.ln 2 x.cln, .slice x.lm 2 x.clm, .slice x.rn 2 x.crn, .slice x.rm 2 x.crm], .slice At 3 3, .int .i64 a] u fun e w' => e = .returned (.bool v) ∧ Below u.heap.size u w'
  next : ∀ (a v : Int), nextL [0, 2, 3] a = v → Calls Try.prog 24 #[.agg #[.slice xp.n 2 xp.cn, .slice xp.s 1 xp.cs], .agg #[.slice x.c 2 x.cc, .slice x.a 1 x.ca, .slice x.ln 2 x.cln, .slice x.lm 2 x.clm, .slice x.rn 2 x.crn, .slice x.rm 2 x.crm], .slice At 3 3, .int .i64 a] u fun e w' => e = .returned (.int .i64 v) ∧ Below u.heap.size u w'
  prev : ∀ (a v : Int), prevL [0, 2, 3] a = v → Calls Try.prog 26 #[.agg #[.slice xp.n 2 xp.cn, .slice xp.s 1 xp.cs], .agg #[.slice x.c 2 x.cc, .slice x.a 1 x.ca, .slice x.ln 2 x.cln, .slice x.lm 2 x.clm, .slice x.rn 2 x.crn, .slice x.rm 2 x.crm], .slice At 3 3, .int .i64 a] u fun e w' => e = .returned (.int .i64 v) ∧ Below u.heap.size u w'
theorem ex_calls {w : World} {x : TA} {xp : PA} {At : Option Addr} (h : TabAt w w.heap.size x exT) (hp : PrAt w w.heap.size xp exP) (ht : Row w w.heap.size At (ints [97, 98, 97])) (u : World) (hu : Below w.heap.size w u) : ExC u x xp At w := by
  have h' := (h.below hu).lt
  have hp' := (hp.below hu).lt
  have ht' := (ht.below hu).lt
  refine ⟨?_, ?_, ?_, ?_, ?_, ?_, ?_⟩
  · have := sync_any x exT u h' ex_small
    rwa [exT_val, ex_sync] at this
  · intro A c hA
    have hf : (0 ≤ (3 : Int) ∧ (3 : Int) ≤ (([0, 0, 1] : List Int).length : Int)) ∧ fitsL exT [0, 0, 1] ∧ validT exT := ⟨by decide, by unfold fitsL; decide, exT_valid⟩
    exact start_any x exT A c [0, 0, 1] 3 u h' ex_small hA (by decide) 3 0 (fun _ => ex_start.symm) (fun h => absurd hf h)
  · intro A c hc hA
    have hf : (0 ≤ (2 : Int) ∧ (2 : Int) ≤ (([1, 0] : List Int).length : Int)) ∧ fitsL exT [1, 0] ∧ validT exT := ⟨by decide, by unfold fitsL; decide, exT_valid⟩
    exact state_any x exT A c [1, 0] 2 u h' ex_small hA (by decide) hc 1 (fun _ => by decide) (fun h => absurd hf h)
  · exact around_any xp exP x exT At 3 [97, 98, 97] u hp' (by decide) h' ex_small ht' (by decide) 1 0 2 true (by rw [ex_pts]; decide)
  · intro a v hv
    have := is_any xp exP x exT At 3 [97, 98, 97] u hp' (by decide) h' ex_small ht' (by decide) a
    rwa [ex_bnd, hv] at this
  · intro a v hv
    have := next_any xp exP x exT At 3 [97, 98, 97] u hp' (by decide) h' ex_small ht' (by decide) a
    rwa [ex_bnd, hv] at this
  · intro a v hv
    have := prev_any xp exP x exT At 3 [97, 98, 97] u hp' (by decide) h' ex_small ht' (by decide) a
    rwa [ex_bnd, hv] at this
theorem eq_t3 (w : World) (a b c a' b' c' : Int) : (Op.equalIn 10000 33 (.agg #[.int .i64 a, .int .i64 b, .int .i64 c]) (.agg #[.int .i64 a', .int .i64 b', .int .i64 c'])).run Try.prog w = .ok (a == a' && (b == b' && c == c')) w := by
  have hin : (Try.prog.info? 3).map (fun i => (i.zero, i.size, i.bytes)) = some (some (.int .i64 0), 1, 8) := by kernel_rfl
  obtain ⟨i0, hi0, hz0, hz1, hz2⟩ := info_parts hin
  rw [show (10000 : Nat) = 9999 + 1 by rfl, run_equalIn_array w 9999 _ _ Try.underlying33 hi0]
  have hc : Try.prog.cellsOf 3 = 1 := by kernel_rfl
  rw [hc, show List.range 3 = [0, 1, 2] by rfl]
  simp [Op.eqItems, go_sem]
  by_cases h : a = a' <;> by_cases h' : b = b' <;> by_cases h'' : c = c' <;> simp [h, h', h'']
theorem rg_held : Try.prog.stoodInHeld 46 = false := by kernel_rfl
theorem eq_rg (w : World) (a b c d : Int) : (Op.equalIn 10000 46 (.agg #[.int .i64 a, .int .i64 b]) (.agg #[.int .i64 c, .int .i64 d])).run Try.prog w = .ok (a == c && b == d) w := by
  have h1 : (Try.prog.fieldsOf 46).toList = [⟨ "Lo", 3, 0, false, "", "", 0⟩, ⟨ "Hi", 3, 1, false, "", "", 8⟩] := by kernel_rfl
  rw [run_equalIn_agg w _ _ _ _ (by kernel_rfl) rg_held, h1]
  simp [go_sem]
  by_cases h : a = c <;> by_cases h' : b = d <;> simp [h, h']
set_option maxRecDepth 100000 in
set_option maxHeartbeats 4000000 in
theorem alive_any (w : World) : Calls Try.prog 11 #[] w fun e w' => e = .returned (.bool true) ∧ Below w.heap.size w w' := by
  have he3 := eq_t3
  have her := eq_rg
  go_enter Try.func11, Try.ntmps11
  go_wp2_with fail
  refine (divided_any w).mono ?_
  rintro e w1 ⟨x, rfl, hT, hb1⟩
  have HB1 := Lib.hid hb1
  have HT1 := Lib.hid hT
  clear hT hb1
  rw [exT_val]
  go_upto_region 4 with fail
  obtain ⟨u1, hu1, C1, K1⟩ := boxV w1 28 (x.cs exT)
  obtain ⟨u2, hu2, C2, K2⟩ := boxV u1 9 #[.string ⟨#[65]⟩, .string ⟨#[66]⟩]
  obtain ⟨u3, hu3, C3, K3⟩ := boxV u2 66 #[.int .i64 98, .int .i64 98, .int .i64 1]
  obtain ⟨u4, hu4, C4, K4⟩ := boxV u3 41 #[.slice (some ⟨w1.heap.size + 1, 0, none⟩) 2 2, .slice (some ⟨w1.heap.size + 1 + 1, 0, none⟩) 1 1]
  obtain ⟨w5, hw5, C5, K5⟩ := boxV u4 3 #[.int .i64 97, .int .i64 98, .int .i64 97]
  have z1 : u1.heap.size = w1.heap.size + 1 := by rw [hu1]; simp
  have z2 : u2.heap.size = w1.heap.size + 1 + 1 := by rw [hu2, World.size_alloc, z1]
  have z3 : u3.heap.size = w1.heap.size + 1 + 1 + 1 := by rw [hu3, World.size_alloc, z2]
  have z4 : u4.heap.size = w1.heap.size + 1 + 1 + 1 + 1 := by rw [hu4, World.size_alloc, z3]
  have D4 := C5.out
  have D3 := C4.out.trans (C5.out.mono C4.out.size)
  have D2 := C3.out.trans (D3.mono C3.out.size)
  have D1 := C2.out.trans (D2.mono C2.out.size)
  have HBX : Hid (Below w1.heap.size w1 w5) := Lib.hid (C1.out.trans (D1.mono C1.out.size))
  have HBW : Hid (Below w.heap.size w w5) := Lib.hid (HB1.out.trans (HBX.out.mono HB1.out.size))
  have HK5 : Hid (Blk w5 w1.heap.size 28 (x.cs exT)) := K1.out.after D1
  have HP5 : Hid (Blk w5 (w1.heap.size + 1 + 1 + 1) 41 #[.slice (some ⟨w1.heap.size + 1, 0, none⟩) 2 2, .slice (some ⟨w1.heap.size + 1 + 1, 0, none⟩) 1 1]) := by
    have := K4.out.after D4
    rw [z3] at this
    exact this
  have HS5 : Hid (Row w5 w5.heap.size (some ⟨w1.heap.size + 1, 0, none⟩) (strs [[65], [66]])) := by
    have := (K2.out.after D2).row (vs := strs [[65], [66]]) rfl
    rw [z1] at this
    exact this
  have HN5 : Hid (Row w5 w5.heap.size (some ⟨w1.heap.size + 1 + 1, 0, none⟩) (spn [(98, 98, 1)])) := by
    have := (K3.out.after D3).row (vs := spn [(98, 98, 1)]) rfl
    rw [z2] at this
    exact this
  have HX5 : Hid (Row w5 w5.heap.size (some ⟨w1.heap.size + 1 + 1 + 1 + 1, 0, none⟩) (ints [97, 98, 97])) := by
    have := K5.out.row (vs := ints [97, 98, 97]) rfl
    rw [z4] at this
    exact this
  have EC : Hid (∀ u, Below w5.heap.size w5 u → ExC u x ⟨some ⟨w1.heap.size + 1, 0, none⟩, some ⟨w1.heap.size + 1 + 1, 0, none⟩, 2, 1⟩ (some ⟨w1.heap.size + 1 + 1 + 1 + 1, 0, none⟩) w5) := Lib.hid (ex_calls (HT1.out.below HBX.out).lt ⟨⟨⟨HS5.out, by intro s hs; simp [exP] at hs; rcases hs with rfl | rfl <;> simp [maxLen]⟩, by simp [exP], by simp [maxLen]⟩, HN5.out, by simp [exP], by simp [maxLen]⟩ HX5.out)
  simp only [TA.cs, exT, List.length_cons, List.length_nil, Nat.zero_add, Nat.reduceAdd] at hu1
  rw [hu4, hu3, hu2, hu1] at hw5
  rw [← hw5]
  clear hw5 hu1 hu2 hu3 hu4 C1 C2 C3 C4 C5 K1 K2 K3 K4 K5 z1 z2 z3 z4 D1 D2 D3 D4 HBX HS5 HN5 HX5 HT1
  have HB0 : Hid (Below w5.heap.size w5 w5) := Below.refl _ _
  obtain ⟨a00, a10, a20, a30, a40, a50, al0⟩ := tab6 (HK5.out.after HB0.out)
  obtain ⟨b00, b10, bl0⟩ := blk2 (HP5.out.after HB0.out)
  simp only [exT, List.length_cons, List.length_nil, Nat.zero_add, Nat.reduceAdd] at a00 a10 a20 a30 a40 a50
  go_wp2_with fail
  refine (EC.out w5 HB0.out).sync.mono ?_
  rintro e w6 ⟨A6, c6, rfl, lc6, lm6, hr6, hb6⟩
  have HB6 : Hid (Below w5.heap.size w5 w6) := HB0.out.trans (hb6.mono HB0.out.size)
  have HR6 := Lib.hid hr6
  clear hr6 hb6 a00 a10 a20 a30 a40 a50 al0 b00 b10 bl0
  obtain ⟨a06, a16, a26, a36, a46, a56, al6⟩ := tab6 (HK5.out.after HB6.out)
  obtain ⟨b06, b16, bl6⟩ := blk2 (HP5.out.after HB6.out)
  simp only [exT, List.length_cons, List.length_nil, Nat.zero_add, Nat.reduceAdd] at a06 a16 a26 a36 a46 a56
  obtain ⟨w7, hw7, HC7, HK7⟩ := boxV w6 3 #[.int .i64 0, .int .i64 0, .int .i64 1]
  have HB7 : Hid (Below w5.heap.size w5 w7) := HB6.out.trans (HC7.out.mono HB6.out.size)
  have HR7 : Hid (Row w7 w7.heap.size A6 (spn [(0, 0, 1), (0, 1, 0), (1, 0, 1), (1, 1, 0)])) := (HR6.out.below HC7.out).lt
  have HI7 : Hid (Row w7 w7.heap.size (some ⟨w6.heap.size, 0, none⟩) (ints [0, 0, 1])) := HK7.out.row rfl
  go_wp2_with (first | (rw [← hw7]; fail) | fail)
  rw [← hw7]
  refine ((EC.out w7 HB7.out).start _ 3 HI7.out).mono ?_
  rintro e w8 ⟨rfl, hb8⟩
  have HB8 : Hid (Below w5.heap.size w5 w8) := HB7.out.trans (hb8.mono HB7.out.size)
  have HR8 : Hid (Row w8 w8.heap.size A6 (spn [(0, 0, 1), (0, 1, 0), (1, 0, 1), (1, 1, 0)])) := (HR7.out.below hb8).lt
  clear hb8 hw7 HC7 HK7 HR6 HR7 HI7 a06 a16 a26 a36 a46 a56 al6 b06 b16 bl6
  obtain ⟨a08, a18, a28, a38, a48, a58, al8⟩ := tab6 (HK5.out.after HB8.out)
  obtain ⟨b08, b18, bl8⟩ := blk2 (HP5.out.after HB8.out)
  simp only [exT, List.length_cons, List.length_nil, Nat.zero_add, Nat.reduceAdd] at a08 a18 a28 a38 a48 a58
  go_wp2_with fail
  refine (EC.out w8 HB8.out).around.mono ?_
  rintro e w9 ⟨rfl, hb9⟩
  have HB9 : Hid (Below w5.heap.size w5 w9) := HB8.out.trans (hb9.mono HB8.out.size)
  have HR9 : Hid (Row w9 w9.heap.size A6 (spn [(0, 0, 1), (0, 1, 0), (1, 0, 1), (1, 1, 0)])) := (HR8.out.below hb9).lt
  clear hb9 HR8 a08 a18 a28 a38 a48 a58 al8 b08 b18 bl8
  obtain ⟨v1, hv1, HC1, HKR⟩ := boxV w9 46 #[.int .i64 0, .int .i64 2]
  obtain ⟨v2, hv2, HC2, HKI⟩ := boxV v1 3 #[.int .i64 1, .int .i64 0]
  have hz1 : v1.heap.size = w9.heap.size + 1 := by rw [hv1]; simp
  have HBv1 : Hid (Below w5.heap.size w5 v1) := HB9.out.trans (HC1.out.mono HB9.out.size)
  have HBv2 : Hid (Below w5.heap.size w5 v2) := HBv1.out.trans (HC2.out.mono HBv1.out.size)
  have HI2 : Hid (Row v2 v2.heap.size (some ⟨w9.heap.size + 1, 0, none⟩) (ints [1, 0])) := by
    have := HKI.out.row (vs := ints [1, 0]) rfl
    rw [hz1] at this
    exact this
  have HKR2 : Hid (Blk v2 w9.heap.size 46 #[.int .i64 0, .int .i64 2]) := HKR.out.after HC2.out
  obtain ⟨bA, oA, eA, hbA, hcA⟩ := (HR9.out) (by simp [spn])
  subst eA
  have r0 := hcA 0 _ rfl
  have r1 := hcA 1 _ rfl
  have r2 := hcA 2 _ rfl
  have r9 := hcA 9 _ rfl
  have r10 := hcA 10 _ rfl
  have r11 := hcA 11 _ rfl
  simp only [Nat.add_zero] at r0
  clear hcA
  obtain ⟨a09, a19, a29, a39, a49, a59, al9⟩ := tab6 (HK5.out.after HB9.out)
  obtain ⟨b09, b19, bl9⟩ := blk2 (HP5.out.after HB9.out)
  simp only [exT, List.length_cons, List.length_nil, Nat.zero_add, Nat.reduceAdd] at a09 a19 a29 a39 a49 a59
  go_wp2_with fail
  rw [← hv1, ← hv2]
  refine ((EC.out v2 HBv2.out).state _ 2 (Nat.le_refl _) HI2.out).mono ?_
  rintro e w10 ⟨rfl, hb10⟩
  have HB10 : Hid (Below w5.heap.size w5 w10) := HBv2.out.trans (hb10.mono HBv2.out.size)
  have HR10 : Hid (Blk w10 w9.heap.size 46 #[.int .i64 0, .int .i64 2]) := HKR2.out.after hb10
  clear hb10 hv1 hv2 HC1 HC2 HKI HKR HKR2 HI2 r0 r1 r2 r9 r10 r11 a09 a19 a29 a39 a49 a59 al9 b09 b19 bl9
  obtain ⟨a010, a110, a210, a310, a410, a510, al10⟩ := tab6 (HK5.out.after HB10.out)
  obtain ⟨b010, b110, bl10⟩ := blk2 (HP5.out.after HB10.out)
  simp only [exT, List.length_cons, List.length_nil, Nat.zero_add, Nat.reduceAdd] at a010 a110 a210 a310 a410 a510
  go_wp2_with fail
  refine ((EC.out w10 HB10.out).is 2 true (by decide)).mono ?_
  rintro e w11 ⟨rfl, hb11⟩
  have HB11 : Hid (Below w5.heap.size w5 w11) := HB10.out.trans (hb11.mono HB10.out.size)
  have HR11 : Hid (Blk w11 w9.heap.size 46 #[.int .i64 0, .int .i64 2]) := HR10.out.after hb11
  clear hb11 HR10 a010 a110 a210 a310 a410 a510 al10 b010 b110 bl10
  obtain ⟨a011, a111, a211, a311, a411, a511, al11⟩ := tab6 (HK5.out.after HB11.out)
  obtain ⟨b011, b111, bl11⟩ := blk2 (HP5.out.after HB11.out)
  simp only [exT, List.length_cons, List.length_nil, Nat.zero_add, Nat.reduceAdd] at a011 a111 a211 a311 a411 a511
  go_wp2_with fail
  refine ((EC.out w11 HB11.out).is 1 false (by decide)).mono ?_
  rintro e w12 ⟨rfl, hb12⟩
  have HB12 : Hid (Below w5.heap.size w5 w12) := HB11.out.trans (hb12.mono HB11.out.size)
  have HR12 : Hid (Blk w12 w9.heap.size 46 #[.int .i64 0, .int .i64 2]) := HR11.out.after hb12
  clear hb12 HR11 a011 a111 a211 a311 a411 a511 al11 b011 b111 bl11
  obtain ⟨a012, a112, a212, a312, a412, a512, al12⟩ := tab6 (HK5.out.after HB12.out)
  obtain ⟨b012, b112, bl12⟩ := blk2 (HP5.out.after HB12.out)
  simp only [exT, List.length_cons, List.length_nil, Nat.zero_add, Nat.reduceAdd] at a012 a112 a212 a312 a412 a512
  go_wp2_with fail
  refine ((EC.out w12 HB12.out).next 0 2 (by decide)).mono ?_
  rintro e w13 ⟨rfl, hb13⟩
  have HB13 : Hid (Below w5.heap.size w5 w13) := HB12.out.trans (hb13.mono HB12.out.size)
  have HR13 : Hid (Blk w13 w9.heap.size 46 #[.int .i64 0, .int .i64 2]) := HR12.out.after hb13
  clear hb13 HR12 a012 a112 a212 a312 a412 a512 al12 b012 b112 bl12
  obtain ⟨a013, a113, a213, a313, a413, a513, al13⟩ := tab6 (HK5.out.after HB13.out)
  obtain ⟨b013, b113, bl13⟩ := blk2 (HP5.out.after HB13.out)
  simp only [exT, List.length_cons, List.length_nil, Nat.zero_add, Nat.reduceAdd] at a013 a113 a213 a313 a413 a513
  go_wp2_with fail
  refine ((EC.out w13 HB13.out).next 3 (-1) (by decide)).mono ?_
  rintro e w14 ⟨rfl, hb14⟩
  have HB14 : Hid (Below w5.heap.size w5 w14) := HB13.out.trans (hb14.mono HB13.out.size)
  have HR14 : Hid (Blk w14 w9.heap.size 46 #[.int .i64 0, .int .i64 2]) := HR13.out.after hb14
  clear hb14 HR13 a013 a113 a213 a313 a413 a513 al13 b013 b113 bl13
  obtain ⟨a014, a114, a214, a314, a414, a514, al14⟩ := tab6 (HK5.out.after HB14.out)
  obtain ⟨b014, b114, bl14⟩ := blk2 (HP5.out.after HB14.out)
  simp only [exT, List.length_cons, List.length_nil, Nat.zero_add, Nat.reduceAdd] at a014 a114 a214 a314 a414 a514
  go_wp2_with fail
  refine ((EC.out w14 HB14.out).prev 2 0 (by decide)).mono ?_
  rintro e w15 ⟨rfl, hb15⟩
  have HB15 : Hid (Below w5.heap.size w5 w15) := HB14.out.trans (hb15.mono HB14.out.size)
  have HR15 : Hid (Blk w15 w9.heap.size 46 #[.int .i64 0, .int .i64 2]) := HR14.out.after hb15
  clear hb15 HR14 a014 a114 a214 a314 a414 a514 al14 b014 b114 bl14
  have HF : Hid (Below w.heap.size w w15) := Lib.hid (HBW.out.trans (HB15.out.mono HBW.out.size))
  obtain ⟨c0, c1, cl⟩ := blk2 HR15.out
  go_wp2
  go_ret
  exact ⟨rfl, HF.out⟩
end Go.Proofs.Ytkoojoogddndnaa
