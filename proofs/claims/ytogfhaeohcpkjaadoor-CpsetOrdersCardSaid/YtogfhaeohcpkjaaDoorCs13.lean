/-
  cpset.Parse: walk.
-/
import Derived.Test.YtogfhaeohcpkjaaDoorProg
import Derived.Test.YtogfhaeohcpkjaaDoorCs12
import Derived.Test.YtogfhaeohcpkjaaDoorCs8
import Derived.Test.YtogfhaeohcpkjaaDoorCp3
import Derived.Laws.OwnMore
import Derived.WalkKit
import Derived.KernelRfl
import Derived.Outline
import Derived.IntWalk
namespace Go.Proofs.YtogfhaeohcpkjaaDoor
open Go.RowKit Go.UtYtogfhaeohcpkjaaDoor
/-- the library's variable MaxLen holds a number -/
def MaxL (w : World) : Prop := 1 < w.heap.size ∧ ∃ m : Int, w.cell? ⟨1, 0, none⟩ = some (.int .i64 m)
theorem MaxL.below {w w' : World} (h : MaxL w) (hb : Below w.heap.size w w') : MaxL w' := by
  obtain ⟨h1, m, h2⟩ := h
  exact ⟨Nat.lt_of_lt_of_le h1 hb.size, m, (hb.cell (p := ⟨1, 0, none⟩) h1).trans h2⟩
theorem cutS_any (l : List UInt8) (w : World) (hl : l.length ≤ 100000000) (hm : MaxL w) (a b : List UInt8) (f : Bool) (h : Lib.cut l [46, 46] = (a, b, f)) :
    Calls Tryd.prog 53 #[.string ⟨l.toArray⟩, .string ⟨#[46, 46]⟩] w fun e w' => e = .returned (.tuple #[.string ⟨a.toArray⟩, .string ⟨b.toArray⟩, .bool f]) ∧ ∃ n, w' = w.drewN n := by
  obtain ⟨_, m, hm⟩ := hm
  have := Tryd.strings_Cut ⟨l.toArray⟩ ⟨#[46, 46]⟩ m w (by show l.toArray.size < _; simp; omega) hm
  have e : Lib.cut (ByteArray.mk l.toArray).data.toList (ByteArray.mk #[46, 46]).data.toList = (a, b, f) := h
  rw [e] at this
  exact this
theorem bya_of {X : List ByteArray} {ws : List (List UInt8)} (h : X.map (·.data.toList) = ws) : X = ws.map bya := by
  subst h
  rw [List.map_map]
  exact (List.map_id'' (fun x => by simp [bya]) X).symm
theorem splitS_any (s : List UInt8) (w : World) (hl : s.length ≤ 100000000) (hm : MaxL w) (ws : List (List UInt8)) (h : chop 32 s = ws) :
    Calls Tryd.prog 52 #[.string ⟨s.toArray⟩, .string ⟨#[32]⟩] w fun e w' => e = .returned (.slice (some ⟨w.heap.size, 0, none⟩) ws.length ws.length) ∧ w' = w.alloc (.cells (ws.map fun l => Value.string (bya l)).toArray 9) := by
  obtain ⟨_, m, hm⟩ := hm
  have := Tryd.strings_Split ⟨s.toArray⟩ ⟨#[32]⟩ m w (by show s.toArray.size < _; simp; omega) hm (by decide)
  have e1 : Lib.splitB ⟨#[32]⟩ 0 (Lib.countB ⟨s.toArray⟩ ⟨#[32]⟩) ⟨s.toArray⟩ = ws.map bya := bya_of (by
    rw [Lib.splitB_data]
    exact (split_chop 32 _ s (Nat.le_refl _)).trans h)
  have e2 : Lib.countB ⟨s.toArray⟩ ⟨#[32]⟩ + 1 = ws.length := by
    rw [← h]
    exact (chop_len 32 _ s (Nat.le_refl _)).symm
  rw [e1, e2, List.map_map] at this
  exact this
def RetParse (w : World) (s : List UInt8) (e : Ending) (w' : World) : Prop :=
  ∃ (A : Option Addr) (c : Nat) (r : List Rg) (f : Int), e = .returned (.tuple #[.agg #[.slice A r.length c], .int .i64 f]) ∧ ParseOut s r f ∧ Row w' w'.heap.size A (rgs r) ∧ Below w.heap.size w w'
theorem Digs.drewN {w : World} (h : Digs w) (n : Nat) : Digs (w.drewN n) := h
theorem MaxL.drewN {w : World} (h : MaxL w) (n : Nat) : MaxL (w.drewN n) := h
theorem pOne_ok {wd a b lst : List UInt8} {f : Bool} {r1 r2 : Int} (hc : Lib.cut wd [46, 46] = (a, b, f)) (hp : pLast wd = lst) (h1 : parse a = (r1, 0)) (h2 : parse lst = (r2, 0)) : pOne wd = some (r1, r2) := by
  unfold pOne
  simp only [hp, hc, h1, h2, and_self, if_true]
theorem pOne_no2 {wd lst : List UInt8} (hp : pLast wd = lst) (h2 : parse lst = (0, 3)) : pOne wd = none := by
  unfold pOne
  rw [if_neg]
  rw [hp, h2]
  rintro ⟨_, h⟩
  cases h
theorem pOne_no1 {wd a b : List UInt8} {f : Bool} (hc : Lib.cut wd [46, 46] = (a, b, f)) (h1 : parse a = (0, 3)) : pOne wd = none := by
  unfold pOne
  rw [if_neg]
  rw [hc]
  simp only [h1]
  rintro ⟨h, _⟩
  cases h
theorem map_take_snoc {ws : List (List UInt8)} {k : Nat} {wd : List UInt8} (h : ws[k]? = some wd) {f : List UInt8 → Option Rg} {ps : List Rg} {r : Rg} (hp : (ws.take k).map f = ps.map some) (hr : f wd = some r) : (ws.take (k + 1)).map f = (ps ++ [r]).map some := by
  obtain ⟨hk, e⟩ := List.getElem?_eq_some_iff.1 h
  rw [List.take_succ_eq_append_getElem hk, e, List.map_append, hp, List.map_append, List.map_cons, hr]
  rfl
theorem undrewN {B n : Nat} {w w' : World} (h : Below B (w.drewN n) w') : Below B w w' := ⟨h.os, h.tape, h.output, h.size, h.block⟩
set_option maxRecDepth 100000 in
set_option maxHeartbeats 2000000 in
theorem parseS_any (s : List UInt8) (w : World) (hl : s.length ≤ 20000000) (hd : Digs w) (hm : MaxL w) :
    Calls Tryd.prog 24 #[.string ⟨s.toArray⟩] w (RetParse w s) := by
  have HD := Lib.hid hd
  have HM := Lib.hid hm
  clear hd hm
  obtain ⟨i0, hi0, hz0, hz1, hz2⟩ := info_parts rg_info
  by_cases hs : s = []
  · subst hs
    go_enter Tryd.func24, Tryd.ntmps24
    go_wp2
    refine bodyPost_ret (v := .tuple #[.agg #[.slice none 0 0], .int .i64 0]) (by simp [results, Tryd.results24, go_sem]) rfl ?_
    exact ⟨none, 0, [], 0, rfl, parse_empty, Row.nil, (Below.refl _ _).alloc (Nat.le_refl _) _⟩
  · have HNE := Lib.hid hs
    have hsb : (s == []) = false := by simpa using hs
    have hsi : (!s.isEmpty) = true := by simpa using hs
    have hsi2 : s.isEmpty = false := by simpa using hs
    obtain ⟨ws, hws⟩ : ∃ ws, chop 32 s = ws := ⟨_, rfl⟩
    have hwl : ws.length ≤ 20000001 := by rw [← hws]; have := chop_count 32 s; omega
    have HW := Lib.hid hws
    have HWL := Lib.hid (chop_le 32 s)
    clear hws
    have HBX : Hid (Below w.heap.size w (w.alloc (.cells #[.slice none 0 0] 24))) := (Below.refl _ _).alloc (Nat.le_refl _) _
    go_enter Tryd.func24, Tryd.ntmps24
    go_wp2_with (first | (go_at_call 52; refine (splitS_any s _ (by omega) (HM.out.below HBX.out) ws HW.out).mono ?_; rintro e wz ⟨rfl, rfl⟩))
    have HBY : Hid (Below w.heap.size w ((w.alloc (.cells #[.slice none 0 0] 24)).alloc (.cells (ws.map fun l => Value.string (bya l)).toArray 9))) := HBX.out.alloc (by simp) _
    have HBZ : Hid (Blk ((w.alloc (.cells #[.slice none 0 0] 24)).alloc (.cells (ws.map fun l => Value.string (bya l)).toArray 9)) (w.heap.size + 1) 9 (ws.map fun l => Value.string (bya l)).toArray) := by
      have := Blk.new (w.alloc (.cells #[.slice none 0 0] 24)) 9 (ws.map fun l => Value.string (bya l)).toArray
      show Blk _ _ _ _
      rwa [World.size_alloc] at this
    go_loopw [4, 21] (fun p i wr => ∃ (k n0 c0 : Nat) (A0 : Option Addr) (ps : List Rg), k ≤ ws.length ∧ i = .int .i64 (k : Int) ∧ p = .slice A0 n0 c0 ∧ n0 ≤ k ∧ Hid ((ws.take k).map pOne = ps.map some) ∧ Hid (wr.ownsRow (w.heap.size + 2) 37 2 (.slice A0 n0 c0) n0 (rgs ps)) ∧ Hid (Below w.heap.size w wr) ∧ Hid (Blk wr w.heap.size 24 #[.slice none 0 0]) ∧ Hid (Blk wr (w.heap.size + 1) 9 (ws.map fun l => Value.string (bya l)).toArray)) (fun _ i _ => ws.length - (intOf i).toNat)
    case atStart => exact ⟨0, 0, 0, none, [], by omega, rfl, rfl, by omega, rfl, own_nil _, HBY, (Blk.new w _ _).alloc _, HBZ⟩
    case round =>
      obtain ⟨k, n0, c0, A0, ps, hk, rfl, rfl, hn0, HPS, HO, HB, HX, HY⟩ := hrel
      by_cases h1 : k < ws.length
      · obtain ⟨wd, hwd⟩ : ∃ wd, Hid (ws[k]? = some wd) := ⟨ws[k], List.getElem?_eq_getElem h1⟩
        have hwdl : wd.length ≤ 20000000 := by have := HWL.out wd (HW.out ▸ List.mem_of_getElem? hwd.out); omega
        have hcell : wr.cell? ⟨w.heap.size + 1, k, none⟩ = some (.string ⟨wd.toArray⟩) := by
          rw [HY.out.cell]
          simp only [List.getElem?_toArray, List.getElem?_map, hwd.out]
          rfl
        obtain ⟨a, b, f, hcut⟩ : ∃ a b f, Lib.cut wd [46, 46] = (a, b, f) := ⟨_, _, _, rfl⟩
        have hab := cut_le2 wd [46, 46]
        rw [hcut] at hab
        obtain ⟨hal, hbl⟩ := hab
        simp only at hal hbl
        have HC := Lib.hid hcut
        clear hcut
        cases f with
        | true =>
          have HP2 : Hid (pLast wd = b) := by
            show _ = _
            unfold pLast
            rw [HC.out]
            rfl
          rcases parse_two a with ⟨r1, h1⟩ | h1
          · rcases parse_two b with ⟨r2, h2⟩ | h2
            · have HR1 := Lib.hid h1
              have HR2 := Lib.hid h2
              have HN : Hid (pOne wd = some (r1, r2)) := by
                exact pOne_ok HC.out HP2.out h1 h2
              have HPS' := Lib.hid (map_take_snoc hwd.out HPS.out HN.out)
              clear h1 h2
              go_wp2_with fail
              refine (cutS_any wd _ (by omega) (HM.out.below HB.out) _ _ _ HC.out).mono ?_
              rintro e wc ⟨rfl, nq, rfl⟩
              have HB0 := Lib.hid (below_drewN HB.out nq)
              go_wp2_with fail
              refine (parse_any a _ (HD.out.below HB0.out) (by simp only [maxLen]; omega) _ _ HR1.out).mono ?_
              rintro e p1 ⟨rfl, hq1⟩
              have HQ1 : Hid (Below wr.heap.size wr p1) := undrewN hq1
              have HB1 := Lib.hid (HB.out.trans (HQ1.out.mono HB.out.size))
              clear hq1
              go_wp2_with fail
              refine (parse_any b _ (HD.out.below HB1.out) (by simp only [maxLen]; omega) _ _ HR2.out).mono ?_
              rintro e p2 ⟨rfl, hq2⟩
              have HQ2 : Hid (Below wr.heap.size wr p2) := HQ1.out.trans (hq2.mono HQ1.out.size)
              have HB2 := Lib.hid (HB.out.trans (HQ2.out.mono HB.out.size))
              clear hq2
              have hsz0 := HB0.out.size
              have hq01 : Below wr.heap.size wr p2 := HQ2.out
              have HO2 := Lib.hid (ow_below HO.out hq01)
              have HX2 := Lib.hid (HX.out.after hq01)
              have HY2 := Lib.hid (HY.out.after hq01)
              clear hq01
              go_wp2_with (first
                | (at_builtin
                   refine wpList_append_row _ rfl (.tmp 51) (.tmp 55) _ rfl (w.heap.size + 2) 37 i0 _ 2 16 Tryd.underlying22 hi0 hz0 hz1 hz2 rfl (by omega) (.slice A0 n0 c0) n0 (rgs ps) rfl (ow_alloc HO2.out _) _ _ 1 1 [Value.int .i64 r1, Value.int .i64 r2] rfl rfl (row_lit p2 _ _) (by simp [Value.oneCell']) (by simp only [maxLen]; omega) (by omega) (by have := HY2.out.lt; simp; omega) ?_
                   intro q4 w4 o4 g4 t4
                   obtain ⟨A4, c4, rfl⟩ := ow_slice (m := n0 + 1) o4 rfl
                   have HB4 : Hid (Below w.heap.size w w4) := (HB2.out.alloc HB2.out.size _).grown g4 (by have := HB2.out.size; simp; omega) (fun g hg => by have := own_base HO2.out g hg; omega)
                   have HX4 := Lib.hid (bk_grown (HX2.out.alloc (.cells #[.int .i64 r1, .int .i64 r2] 37)) g4 (fun e => by have := own_base HO2.out _ e.symm; omega))
                   have HY4 := Lib.hid (bk_grown (HY2.out.alloc (.cells #[.int .i64 r1, .int .i64 r2] 37)) g4 (fun e => by have := own_base HO2.out _ e.symm; omega))
                   have HO4 := Lib.hid o4
                   clear o4 g4 t4))
              go_roundw
              case rel => exact ⟨k + 1, n0 + 1, c4, A4, _, by omega, by go_num, rfl, by omega, HPS', by rw [rgs_append]; exact HO4, HB4, HX4, HY4⟩
              case measure => simp [intOf]; omega
            · have HR1 := Lib.hid h1
              have HR2 := Lib.hid h2
              have HN : Hid (pOne wd = none) := by
                exact pOne_no2 HP2.out h2
              have HBAD := Lib.hid (parse_bad (fun r => pOne_word) HNE.out (HW.out ▸ List.mem_of_getElem? hwd.out) HN.out)
              clear h1 h2
              go_wp2_with fail
              refine (cutS_any wd _ (by omega) (HM.out.below HB.out) _ _ _ HC.out).mono ?_
              rintro e wc ⟨rfl, nq, rfl⟩
              have HB0 := Lib.hid (below_drewN HB.out nq)
              go_wp2_with fail
              refine (parse_any a _ (HD.out.below HB0.out) (by simp only [maxLen]; omega) _ _ HR1.out).mono ?_
              rintro e p1 ⟨rfl, hq1⟩
              have HQ1 : Hid (Below wr.heap.size wr p1) := undrewN hq1
              have HB1 := Lib.hid (HB.out.trans (HQ1.out.mono HB.out.size))
              clear hq1
              go_wp2_with fail
              refine (parse_any b _ (HD.out.below HB1.out) (by simp only [maxLen]; omega) _ _ HR2.out).mono ?_
              rintro e p2 ⟨rfl, hq2⟩
              have HQ2 : Hid (Below wr.heap.size wr p2) := HQ1.out.trans (hq2.mono HQ1.out.size)
              have HB2 := Lib.hid (HB.out.trans (HQ2.out.mono HB.out.size))
              clear hq2
              have HX2 := Lib.hid (HX.out.after HQ2.out)
              have z0 := HX2.out.free 0
              have y0 := HX2.out.cell 0
              simp at y0
              go_wp2
              refine bodyPost_ret (v := .tuple #[.agg #[.slice none 0 0], .int .i64 3]) ?_ rfl ?_
              · have q0 := (HX2.out.set_ 0 (.slice none 0 0)).cell 0
                simp at q0
                simp [results, Tryd.results24, go_sem, q0]
              · exact ⟨none, 0, [], 3, rfl, HBAD.out, Row.nil, HB2.out.setCell (p := ⟨w.heap.size, 0, none⟩) (Nat.le_refl _) _⟩
          · have HR1 := Lib.hid h1
            obtain ⟨r2, f2, h2⟩ : ∃ r2 f2, parse b = (r2, f2) := ⟨_, _, rfl⟩
            have HR2 := Lib.hid h2
            have HN : Hid (pOne wd = none) := by
              exact pOne_no1 HC.out h1
            have HBAD := Lib.hid (parse_bad (fun r => pOne_word) HNE.out (HW.out ▸ List.mem_of_getElem? hwd.out) HN.out)
            clear h1 h2
            go_wp2_with fail
            refine (cutS_any wd _ (by omega) (HM.out.below HB.out) _ _ _ HC.out).mono ?_
            rintro e wc ⟨rfl, nq, rfl⟩
            have HB0 := Lib.hid (below_drewN HB.out nq)
            go_wp2_with fail
            refine (parse_any a _ (HD.out.below HB0.out) (by simp only [maxLen]; omega) _ _ HR1.out).mono ?_
            rintro e p1 ⟨rfl, hq1⟩
            have HQ1 : Hid (Below wr.heap.size wr p1) := undrewN hq1
            have HB1 := Lib.hid (HB.out.trans (HQ1.out.mono HB.out.size))
            clear hq1
            go_wp2_with fail
            refine (parse_any b _ (HD.out.below HB1.out) (by simp only [maxLen]; omega) _ _ HR2.out).mono ?_
            rintro e p2 ⟨rfl, hq2⟩
            have HQ2 : Hid (Below wr.heap.size wr p2) := HQ1.out.trans (hq2.mono HQ1.out.size)
            have HB2 := Lib.hid (HB.out.trans (HQ2.out.mono HB.out.size))
            clear hq2
            have HX2 := Lib.hid (HX.out.after HQ2.out)
            have z0 := HX2.out.free 0
            have y0 := HX2.out.cell 0
            simp at y0
            go_wp2
            refine bodyPost_ret (v := .tuple #[.agg #[.slice none 0 0], .int .i64 3]) ?_ rfl ?_
            · have q0 := (HX2.out.set_ 0 (.slice none 0 0)).cell 0
              simp at q0
              simp [results, Tryd.results24, go_sem, q0]
            · exact ⟨none, 0, [], 3, rfl, HBAD.out, Row.nil, HB2.out.setCell (p := ⟨w.heap.size, 0, none⟩) (Nat.le_refl _) _⟩
        | false =>
          have HP2 : Hid (pLast wd = a) := by
            show _ = _
            unfold pLast
            rw [HC.out]
            rfl
          rcases parse_two a with ⟨r1, h1⟩ | h1
          · rcases parse_two a with ⟨r2, h2⟩ | h2
            · have HR1 := Lib.hid h1
              have HR2 := Lib.hid h2
              have HN : Hid (pOne wd = some (r1, r2)) := by
                exact pOne_ok HC.out HP2.out h1 h2
              have HPS' := Lib.hid (map_take_snoc hwd.out HPS.out HN.out)
              clear h1 h2
              go_wp2_with fail
              refine (cutS_any wd _ (by omega) (HM.out.below HB.out) _ _ _ HC.out).mono ?_
              rintro e wc ⟨rfl, nq, rfl⟩
              have HB0 := Lib.hid (below_drewN HB.out nq)
              go_wp2_with fail
              refine (parse_any a _ (HD.out.below HB0.out) (by simp only [maxLen]; omega) _ _ HR1.out).mono ?_
              rintro e p1 ⟨rfl, hq1⟩
              have HQ1 : Hid (Below wr.heap.size wr p1) := undrewN hq1
              have HB1 := Lib.hid (HB.out.trans (HQ1.out.mono HB.out.size))
              clear hq1
              go_wp2_with fail
              refine (parse_any a _ (HD.out.below HB1.out) (by simp only [maxLen]; omega) _ _ HR2.out).mono ?_
              rintro e p2 ⟨rfl, hq2⟩
              have HQ2 : Hid (Below wr.heap.size wr p2) := HQ1.out.trans (hq2.mono HQ1.out.size)
              have HB2 := Lib.hid (HB.out.trans (HQ2.out.mono HB.out.size))
              clear hq2
              have hsz0 := HB0.out.size
              have hq01 : Below wr.heap.size wr p2 := HQ2.out
              have HO2 := Lib.hid (ow_below HO.out hq01)
              have HX2 := Lib.hid (HX.out.after hq01)
              have HY2 := Lib.hid (HY.out.after hq01)
              clear hq01
              go_wp2_with (first
                | (at_builtin
                   refine wpList_append_row _ rfl (.tmp 51) (.tmp 55) _ rfl (w.heap.size + 2) 37 i0 _ 2 16 Tryd.underlying22 hi0 hz0 hz1 hz2 rfl (by omega) (.slice A0 n0 c0) n0 (rgs ps) rfl (ow_alloc HO2.out _) _ _ 1 1 [Value.int .i64 r1, Value.int .i64 r2] rfl rfl (row_lit p2 _ _) (by simp [Value.oneCell']) (by simp only [maxLen]; omega) (by omega) (by have := HY2.out.lt; simp; omega) ?_
                   intro q4 w4 o4 g4 t4
                   obtain ⟨A4, c4, rfl⟩ := ow_slice (m := n0 + 1) o4 rfl
                   have HB4 : Hid (Below w.heap.size w w4) := (HB2.out.alloc HB2.out.size _).grown g4 (by have := HB2.out.size; simp; omega) (fun g hg => by have := own_base HO2.out g hg; omega)
                   have HX4 := Lib.hid (bk_grown (HX2.out.alloc (.cells #[.int .i64 r1, .int .i64 r2] 37)) g4 (fun e => by have := own_base HO2.out _ e.symm; omega))
                   have HY4 := Lib.hid (bk_grown (HY2.out.alloc (.cells #[.int .i64 r1, .int .i64 r2] 37)) g4 (fun e => by have := own_base HO2.out _ e.symm; omega))
                   have HO4 := Lib.hid o4
                   clear o4 g4 t4))
              go_roundw
              case rel => exact ⟨k + 1, n0 + 1, c4, A4, _, by omega, by go_num, rfl, by omega, HPS', by rw [rgs_append]; exact HO4, HB4, HX4, HY4⟩
              case measure => simp [intOf]; omega
            · have HR1 := Lib.hid h1
              have HR2 := Lib.hid h2
              have HN : Hid (pOne wd = none) := by
                exact pOne_no2 HP2.out h2
              have HBAD := Lib.hid (parse_bad (fun r => pOne_word) HNE.out (HW.out ▸ List.mem_of_getElem? hwd.out) HN.out)
              clear h1 h2
              go_wp2_with fail
              refine (cutS_any wd _ (by omega) (HM.out.below HB.out) _ _ _ HC.out).mono ?_
              rintro e wc ⟨rfl, nq, rfl⟩
              have HB0 := Lib.hid (below_drewN HB.out nq)
              go_wp2_with fail
              refine (parse_any a _ (HD.out.below HB0.out) (by simp only [maxLen]; omega) _ _ HR1.out).mono ?_
              rintro e p1 ⟨rfl, hq1⟩
              have HQ1 : Hid (Below wr.heap.size wr p1) := undrewN hq1
              have HB1 := Lib.hid (HB.out.trans (HQ1.out.mono HB.out.size))
              clear hq1
              go_wp2_with fail
              refine (parse_any a _ (HD.out.below HB1.out) (by simp only [maxLen]; omega) _ _ HR2.out).mono ?_
              rintro e p2 ⟨rfl, hq2⟩
              have HQ2 : Hid (Below wr.heap.size wr p2) := HQ1.out.trans (hq2.mono HQ1.out.size)
              have HB2 := Lib.hid (HB.out.trans (HQ2.out.mono HB.out.size))
              clear hq2
              have HX2 := Lib.hid (HX.out.after HQ2.out)
              have z0 := HX2.out.free 0
              have y0 := HX2.out.cell 0
              simp at y0
              go_wp2
              refine bodyPost_ret (v := .tuple #[.agg #[.slice none 0 0], .int .i64 3]) ?_ rfl ?_
              · have q0 := (HX2.out.set_ 0 (.slice none 0 0)).cell 0
                simp at q0
                simp [results, Tryd.results24, go_sem, q0]
              · exact ⟨none, 0, [], 3, rfl, HBAD.out, Row.nil, HB2.out.setCell (p := ⟨w.heap.size, 0, none⟩) (Nat.le_refl _) _⟩
          · have HR1 := Lib.hid h1
            obtain ⟨r2, f2, h2⟩ : ∃ r2 f2, parse a = (r2, f2) := ⟨_, _, rfl⟩
            have HR2 := Lib.hid h2
            have HN : Hid (pOne wd = none) := by
              exact pOne_no1 HC.out h1
            have HBAD := Lib.hid (parse_bad (fun r => pOne_word) HNE.out (HW.out ▸ List.mem_of_getElem? hwd.out) HN.out)
            clear h1 h2
            go_wp2_with fail
            refine (cutS_any wd _ (by omega) (HM.out.below HB.out) _ _ _ HC.out).mono ?_
            rintro e wc ⟨rfl, nq, rfl⟩
            have HB0 := Lib.hid (below_drewN HB.out nq)
            go_wp2_with fail
            refine (parse_any a _ (HD.out.below HB0.out) (by simp only [maxLen]; omega) _ _ HR1.out).mono ?_
            rintro e p1 ⟨rfl, hq1⟩
            have HQ1 : Hid (Below wr.heap.size wr p1) := undrewN hq1
            have HB1 := Lib.hid (HB.out.trans (HQ1.out.mono HB.out.size))
            clear hq1
            go_wp2_with fail
            refine (parse_any a _ (HD.out.below HB1.out) (by simp only [maxLen]; omega) _ _ HR2.out).mono ?_
            rintro e p2 ⟨rfl, hq2⟩
            have HQ2 : Hid (Below wr.heap.size wr p2) := HQ1.out.trans (hq2.mono HQ1.out.size)
            have HB2 := Lib.hid (HB.out.trans (HQ2.out.mono HB.out.size))
            clear hq2
            have HX2 := Lib.hid (HX.out.after HQ2.out)
            have z0 := HX2.out.free 0
            have y0 := HX2.out.cell 0
            simp at y0
            go_wp2
            refine bodyPost_ret (v := .tuple #[.agg #[.slice none 0 0], .int .i64 3]) ?_ rfl ?_
            · have q0 := (HX2.out.set_ 0 (.slice none 0 0)).cell 0
              simp at q0
              simp [results, Tryd.results24, go_sem, q0]
            · exact ⟨none, 0, [], 3, rfl, HBAD.out, Row.nil, HB2.out.setCell (p := ⟨w.heap.size, 0, none⟩) (Nat.le_refl _) _⟩
      · obtain rfl : k = ws.length := by omega
        rw [List.take_length] at HPS
        obtain ⟨hrow, -, -⟩ := ow_row HO.out
        have hnl : n0 = ps.length := by have := HO.out.1; rw [rgs_len] at this; omega
        subst hnl
        have HRW := Lib.hid hrow
        clear hrow
        go_wp2_with fail
        refine (make_any _ _ _ _ HRW.out (by omega)).mono ?_
        rintro e w5 ⟨A5, c5, r, rfl, hc, hh, hr5, hb5⟩
        have HPP := Lib.hid (parse_prog HNE.out (HW.out ▸ HPS.out) hc hh)
        have HB5 := Lib.hid (HB.out.trans (hb5.mono HB.out.size))
        have HX5 := Lib.hid (HX.out.after hb5)
        have hrl := can_len hc
        have HR5 := Lib.hid hr5
        have HCN := Lib.hid hc
        clear hc hh hr5 hb5
        obtain ⟨t, ht⟩ : ∃ t, textR r = t := ⟨_, rfl⟩
        have HT : Hid (∀ r', Cnn r' → (∀ x, hasP r' x ↔ hasP r x) → textR r' = t) := fun r' h1 h2 => by rw [can_eq h1 HCN.out h2, ht]
        rw [ht] at HPP
        clear ht
        obtain ⟨w6, h6, HB6, HX6, HS6, HR6⟩ : ∃ w6, w6 = w5.alloc (.cells #[.slice A5 r.length c5] 24) ∧ Hid (Below w.heap.size w w6) ∧ Hid (Blk w6 w.heap.size 24 #[.slice none 0 0]) ∧ Hid (Blk w6 w5.heap.size 24 #[.slice A5 r.length c5]) ∧ Hid (Row w6 w6.heap.size A5 (rgs r)) := ⟨_, rfl, HB5.out.alloc HB5.out.size _, HX5.out.alloc _, Blk.new _ _ _, (HR5.out.below ((Below.refl _ _).alloc (Nat.le_refl _) _)).lt⟩
        go_wp2_with fail
        rw [← h6]
        clear h6
        refine (text_any A5 c5 r _ (HD.out.below HB6.out) HR6.out (by omega) t HT.out).mono ?_
        rintro e w7 ⟨rfl, hb7⟩
        have HB7 := Lib.hid (HB6.out.trans (hb7.mono HB6.out.size))
        have HX7 := Lib.hid (HX6.out.after hb7)
        have HS7 := Lib.hid (HS6.out.after hb7)
        have HR7 := Lib.hid (HR6.out.below hb7).lt
        have y0 := HX7.out.cell 0
        have z0 := HX7.out.free 0
        have y1 := HS7.out.cell 0
        simp at y0 y1
        clear hb7
        by_cases hts : t = s
        · subst hts
          have HPO := Lib.hid (HPP.out.1 rfl)
          go_wp2
          refine bodyPost_ret (v := .tuple #[.agg #[.slice A5 r.length c5], .int .i64 0]) ?_ rfl ?_
          · have q0 := (HX7.out.set_ 0 (.slice A5 r.length c5)).cell 0
            simp at q0
            simp [results, Tryd.results24, go_sem, q0]
          · refine ⟨A5, c5, r, 0, rfl, HPO.out, ?_, HB7.out.setCell (p := ⟨w.heap.size, 0, none⟩) (Nat.le_refl _) _⟩
            have := row_one HX7.out (grown_set (grown_refl w7 (some w.heap.size)) 0 (.slice A5 r.length c5)) HR7.out (Nat.le_refl _)
            simpa using this
        · have HPO := Lib.hid (HPP.out.2 hts)
          have ht1 : (t == s) = false := by simpa using hts
          go_wp2
          refine bodyPost_ret (v := .tuple #[.agg #[.slice none 0 0], .int .i64 3]) ?_ rfl ?_
          · have q0 := (HX7.out.set_ 0 (.slice none 0 0)).cell 0
            simp at q0
            simp [results, Tryd.results24, go_sem, q0]
          · exact ⟨none, 0, [], 3, rfl, HPO.out, Row.nil, HB7.out.setCell (p := ⟨w.heap.size, 0, none⟩) (Nat.le_refl _) _⟩
end Go.Proofs.YtogfhaeohcpkjaaDoor
