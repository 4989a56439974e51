/-
  Steps as an argument; law54.few.
  Beginnings of documents, edits and steps as arguments.
-/
import Derived.Test.YtkpblieanejmeaaIb1
import Derived.Test.YtkpblieanejmeaaBw1
import Derived.Test.YtkpblieanejmeaaBp5
import Derived.Test.YtkpblieanejmeaaEdm
import Derived.Test.YtkpblieanejmeaaBo0
import Derived.ChangeArms
namespace Go.UtYtkpblieanejmeaa
open Go.RowKit
/-- a step: an edit (At, Del, Ins), whether it is an undo, the position that is asked -/
structure St where
  x : Int
  y : Int
  ins : List Int
  un : Bool
  pos : Int
def StepsAt (w : World) (B : Nat) (A : Option Addr) (l : List St) : Prop :=
  ∃ vs : List Value, vs.length = l.length * 5 ∧ Row w B A vs ∧ ∀ (k : Nat) (s : St), l[k]? = some s → ∃ (A' : Option Addr) (c' : Nat), (vs[k * 5]? = some (.int .i64 s.x) ∧ vs[k * 5 + 1]? = some (.int .i64 s.y) ∧ vs[k * 5 + 2]? = some (.slice A' s.ins.length c') ∧ vs[k * 5 + 3]? = some (.bool s.un) ∧ vs[k * 5 + 4]? = some (.int .i64 s.pos)) ∧ s.ins.length ≤ c' ∧ c' ≤ maxLen ∧ Row w B A' (ints s.ins)
section
variable {w w' : World} {B : Nat} {A : Option Addr} {l : List St}
theorem StepsAt.below (h : StepsAt w B A l) (hb : Below B w w') : StepsAt w' B A l := by
  obtain ⟨vs, h1, h2, h3⟩ := h
  refine ⟨vs, h1, h2.below hb, fun k s hk => ?_⟩
  obtain ⟨A', c', g1, g2, g3, g4⟩ := h3 k s hk
  exact ⟨A', c', g1, g2, g3, g4.below hb⟩
theorem StepsAt.lt (h : StepsAt w B A l) : StepsAt w w.heap.size A l := by
  obtain ⟨vs, h1, h2, h3⟩ := h
  refine ⟨vs, h1, h2.lt, fun k s hk => ?_⟩
  obtain ⟨A', c', g1, g2, g3, g4⟩ := h3 k s hk
  exact ⟨A', c', g1, g2, g3, g4.lt⟩
theorem StepsAt.at_ (h : StepsAt w B A l) {k : Nat} (hk : k < l.length) : ∃ b o s A' c', A = some ⟨b, o, none⟩ ∧ b < B ∧ Hid (l[k]? = some s) ∧ (w.cell? ⟨b, o + k * 5, none⟩ = some (.int .i64 s.x) ∧ w.cell? ⟨b, o + k * 5 + 1, none⟩ = some (.int .i64 s.y) ∧ w.cell? ⟨b, o + k * 5 + 2, none⟩ = some (.slice A' s.ins.length c') ∧ w.cell? ⟨b, o + k * 5 + 3, none⟩ = some (.bool s.un) ∧ w.cell? ⟨b, o + k * 5 + 4, none⟩ = some (.int .i64 s.pos)) ∧ (s.ins.length ≤ c' ∧ c' ≤ maxLen) ∧ Hid (Row w B A' (ints s.ins)) := by
  obtain ⟨vs, h1, h2, h3⟩ := h
  have e : l[k]? = some l[k] := List.getElem?_eq_getElem hk
  obtain ⟨A', c', ⟨g0, g1, g2, g3, g4⟩, k1, k2, k3⟩ := h3 k _ e
  obtain ⟨b, o, hA, hb, hc⟩ := h2 (fun e => by rw [e] at g0; simp at g0)
  refine ⟨b, o, l[k], A', c', hA, hb, e, ⟨hc _ _ g0, ?_, ?_, ?_, ?_⟩, ⟨k1, k2⟩, k3⟩
  · have := hc _ _ g1
    rwa [← Nat.add_assoc] at this
  · have := hc _ _ g2
    rwa [← Nat.add_assoc] at this
  · have := hc _ _ g3
    rwa [← Nat.add_assoc] at this
  · have := hc _ _ g4
    rwa [← Nat.add_assoc] at this
end
/-- the beginning of a document, as a value -/
def startC (x : PA) (p : PR) (y : TA) (t : BT) (At : Option Addr) (n ct : Nat) : Array Value :=
  #[.slice x.n p.names.length x.cn, .slice x.s p.spans.length x.cs, .slice y.c t.cls.length y.cc, .slice y.a t.act.length y.ca, .slice y.ln t.ln.length y.cln, .slice y.lm t.lm.length y.clm, .slice y.rn t.rn.length y.crn, .slice y.rm t.rm.length y.crm, .slice At n ct]
theorem start_cells {w : World} {g T : Nat} {x : PA} {p : PR} {y : TA} {t : BT} {A1 : Option Addr} {n1 c1 : Nat} (h : Blk w g T (startC x p y t A1 n1 c1)) :
    (w.cell? ⟨g, 0, none⟩ = some (.slice x.n p.names.length x.cn) ∧ w.cell? ⟨g, 1, none⟩ = some (.slice x.s p.spans.length x.cs)) ∧
    (w.cell? ⟨g, 2, none⟩ = some (.slice y.c t.cls.length y.cc) ∧ w.cell? ⟨g, 3, none⟩ = some (.slice y.a t.act.length y.ca) ∧ w.cell? ⟨g, 4, none⟩ = some (.slice y.ln t.ln.length y.cln) ∧ w.cell? ⟨g, 5, none⟩ = some (.slice y.lm t.lm.length y.clm) ∧ w.cell? ⟨g, 6, none⟩ = some (.slice y.rn t.rn.length y.crn) ∧ w.cell? ⟨g, 7, none⟩ = some (.slice y.rm t.rm.length y.crm)) ∧
    w.cell? ⟨g, 8, none⟩ = some (.slice A1 n1 c1) ∧ g < w.heap.size :=
  ⟨⟨h.cell 0, h.cell 1⟩, ⟨h.cell 2, h.cell 3, h.cell 4, h.cell 5, h.cell 6, h.cell 7⟩, h.cell 8, h.lt⟩
end Go.UtYtkpblieanejmeaa
namespace Go.Proofs.Ytkpblieanejmeaa
open Go.RowKit Go.UtYtkpblieanejmeaa
/-- a document and its steps are small -/
def Few54 (p : PR) (t : BT) (n : Nat) (l : List St) : Prop := l.length ≤ 8 ∧ (p.names.length ≤ 300 ∧ p.spans.length ≤ 16) ∧ smT t ∧ n ≤ 20 ∧ ∀ s ∈ l, s.ins.length ≤ 40
set_option maxRecDepth 100000 in
set_option maxHeartbeats 4000000 in
theorem few54_any (x : PA) (p : PR) (y : TA) (t : BT) (At : Option Addr) (n ct : Nat) (A : Option Addr) (nl c : Nat) (l : List St) (w : World) (hY : TabAt w w.heap.size y t) (hS : StepsAt w w.heap.size A l) (hn : l.length = nl) (v : Bool) (hv : v = true ↔ Few54 p t n l) :
    Calls Try.prog 9 #[.agg (startC x p y t At n ct), .slice A nl c] w fun e w' => e = .returned (.bool v) ∧ Below w.heap.size w w' := by
  have CP := Lib.hid (fun (u : World) (v : Bool) (hv : v = true ↔ p.names.length ≤ 300 ∧ p.spans.length ≤ 16) => few10_any x p 16 u v hv)
  have CS := Lib.hid (fun (u : World) (hu : Below w.heap.size w u) (v : Bool) (hv : v = true ↔ smT t) => smT_any y t u (hY.below hu).lt v hv)
  unfold PA.val at CP
  unfold TA.val at CS
  obtain ⟨w1, hw1, HB1, HK1⟩ := boxV w 33 (startC x p y t At n ct)
  have HSA := Lib.hid hS
  have HN := Lib.hid hn
  have HV := Lib.hid hv
  obtain ⟨⟨a0, a1⟩, ⟨a2, a3, a4, a5, a6, a7⟩, a8, al⟩ := start_cells HK1.out
  unfold startC at hw1 ⊢
  clear hY hS hn hv
  by_cases h1 : nl ≤ 8
  case neg =>
    have HF : Hid (v = false) := Lib.hid (bool_neg HV.out (fun h => by have := h.1; rw [HN.out] at this; exact h1 this))
    have d1 : decide ((8 : Int) < (nl : Int)) = true := decide_eq_true (by omega)
    have d2 : decide (8 < nl) = true := decide_eq_true (by omega)
    clear h1
    go_enter Try.func9, Try.ntmps9
    go_upto_region 1 with fail
    rw [← hw1]
    clear hw1
    go_wp2
    go_ret
    exact ⟨ret_bool HF.out.symm, HB1.out⟩
  case pos =>
    have d1 : decide ((8 : Int) < (nl : Int)) = false := decide_eq_false (by omega)
    have d2 : decide (8 < nl) = false := decide_eq_false (by omega)
    by_cases h2 : p.names.length ≤ 300 ∧ p.spans.length ≤ 16
    case neg =>
      have HF : Hid (v = false) := Lib.hid (bool_neg HV.out (fun h => h2 h.2.1))
      have C1 := Lib.hid (CP.out w1 false ⟨fun h => (by cases h), fun h => absurd h h2⟩)
      clear h2
      go_enter Try.func9, Try.ntmps9
      go_upto_region 1 with fail
      rw [← hw1]
      clear hw1
      go_wp2_with fail
      refine C1.out.mono ?_
      rintro e w2 ⟨rfl, hb2⟩
      have HB2 := Lib.hid (HB1.out.trans (hb2.mono HB1.out.size))
      clear hb2
      go_wp2
      go_ret
      exact ⟨ret_bool HF.out.symm, HB2.out⟩
    case pos =>
      have C1 := Lib.hid (CP.out w1 true ⟨fun _ => h2, fun _ => rfl⟩)
      have H2 := Lib.hid h2
      clear h2
      by_cases h3 : smT t
      case neg =>
        have HF : Hid (v = false) := Lib.hid (bool_neg HV.out (fun h => h3 h.2.2.1))
        have H3 := Lib.hid h3
        clear h3
        go_enter Try.func9, Try.ntmps9
        go_upto_region 1 with fail
        rw [← hw1]
        clear hw1
        go_wp2_with fail
        refine C1.out.mono ?_
        rintro e w2 ⟨rfl, hb2⟩
        have HB2 := Lib.hid (HB1.out.trans (hb2.mono HB1.out.size))
        have HK2 := Lib.hid (HK1.out.after hb2)
        have C2 := Lib.hid (CS.out w2 HB2.out false ⟨fun h => (by cases h), fun h => absurd h H3.out⟩)
        clear hb2 a0 a1 a2 a3 a4 a5 a6 a7 a8 al
        obtain ⟨⟨a0, a1⟩, ⟨a2, a3, a4, a5, a6, a7⟩, a8, al⟩ := start_cells HK2.out
        go_wp2_with fail
        refine C2.out.mono ?_
        rintro e w3 ⟨rfl, hb3⟩
        have HB3 := Lib.hid (HB2.out.trans (hb3.mono HB2.out.size))
        clear hb3 a0 a1 a2 a3 a4 a5 a6 a7 a8 al
        go_wp2
        go_ret
        exact ⟨ret_bool HF.out.symm, HB3.out⟩
      case pos =>
        have H3 := Lib.hid h3
        clear h3
        go_enter Try.func9, Try.ntmps9
        go_upto_region 1 with fail
        rw [← hw1]
        clear hw1
        go_wp2_with fail
        refine C1.out.mono ?_
        rintro e w2 ⟨rfl, hb2⟩
        have HB2 := Lib.hid (HB1.out.trans (hb2.mono HB1.out.size))
        have HK2 := Lib.hid (HK1.out.after hb2)
        have C2 := Lib.hid (CS.out w2 HB2.out true ⟨fun _ => H3.out, fun _ => rfl⟩)
        clear hb2 a0 a1 a2 a3 a4 a5 a6 a7 a8 al
        obtain ⟨⟨a0, a1⟩, ⟨a2, a3, a4, a5, a6, a7⟩, a8, al⟩ := start_cells HK2.out
        go_wp2_with fail
        refine C2.out.mono ?_
        rintro e w3 ⟨rfl, hb3⟩
        have HB3 := Lib.hid (HB2.out.trans (hb3.mono HB2.out.size))
        have HK3 := Lib.hid (HK2.out.after hb3)
        clear hb3 a0 a1 a2 a3 a4 a5 a6 a7 a8 al
        obtain ⟨⟨a0, a1⟩, ⟨a2, a3, a4, a5, a6, a7⟩, a8, al⟩ := start_cells HK3.out
        go_wp2_with fail
        refine (few01_any At n ct 20 w3).mono ?_
        rintro e w4 ⟨rfl, hw4⟩
        subst hw4
        clear a0 a1 a2 a3 a4 a5 a6 a7 a8 al
        by_cases h4 : n ≤ 20
        case neg =>
          have HF : Hid (v = false) := Lib.hid (bool_neg HV.out (fun h => h4 h.2.2.2.1))
          have d4 : decide (n ≤ 20) = false := decide_eq_false h4
          clear h4
          go_wp2
          go_ret
          exact ⟨ret_bool HF.out.symm, HB3.out⟩
        case pos =>
          have d4 : decide (n ≤ 20) = true := decide_eq_true h4
          go_wp2
          go_loopw [30] (fun u wr => ∃ k : Nat, k ≤ nl ∧ u = .int .i64 (k : Int) ∧ Hid (∀ s ∈ l.take k, s.ins.length ≤ 40) ∧ Hid (Below w4.heap.size w4 wr)) (fun u _ => nl - (intOf u).toNat)
          case atStart => exact ⟨0, by omega, rfl, Lib.hid (by simp), Below.refl _ _⟩
          case round =>
            obtain ⟨k, hk, rfl, HL, HB⟩ := hrel
            have HBW := Lib.hid (HB3.out.trans (HB.out.mono HB3.out.size))
            by_cases hkn : k < nl
            · obtain ⟨b, o, s, A', c', hA, hb, hs, ⟨c0, c1, c2, c3, c4⟩, -, -⟩ := (HSA.out.below HBW.out).at_ (k := k) (by rw [HN.out]; exact hkn)
              subst hA
              have hbl : b < wr.heap.size := by have := HBW.out.size; omega
              obtain ⟨ni, hni⟩ : ∃ z, s.ins.length = z := ⟨_, rfl⟩
              rw [hni] at c2
              obtain ⟨w5, hw5, HB5, HK5⟩ := boxV wr 48 #[.int .i64 s.x, .int .i64 s.y, .slice A' ni c', .bool s.un, .int .i64 s.pos]
              have HBW5 := Lib.hid (HBW.out.trans (HB5.out.mono HBW.out.size))
              have HB45 := Lib.hid (HB.out.trans (HB5.out.mono HB.out.size))
              obtain ⟨g, hg⟩ : ∃ z, z = wr.heap.size := ⟨_, rfl⟩
              rw [← hg] at HK5
              have e0 := HK5.out.cell 0
              have e1 := HK5.out.cell 1
              have e2 := HK5.out.cell 2
              have el := HK5.out.lt
              simp only [List.getElem?_toArray, List.getElem?_cons_zero, List.getElem?_cons_succ] at e0 e1 e2
              have HS := Lib.hid hs.out
              have HNI := Lib.hid hni
              clear hni
              go_upto_region 6 with fail
              rw [← hw5, ← hg]
              clear hw5 hg c0 c1 c2 c3 c4
              by_cases h5 : ni ≤ 40
              · go_wp2_with fail
                refine (small_any s.x s.y A' ni c' w5 true (decide_eq_true (by omega))).mono ?_
                rintro e w6 ⟨rfl, hb6⟩
                have HB6 := Lib.hid (HB45.out.trans (hb6.mono HB45.out.size))
                have HL' : Hid (∀ s ∈ l.take (k + 1), s.ins.length ≤ 40) := Lib.hid (all_snoc HL.out HS.out (by rw [HNI.out]; exact h5))
                clear hb6 e0 e1 e2 el
                go_wp2
                go_roundw
                case rel => exact ⟨k + 1, by omega, by go_num, HL', HB6⟩
                case measure => simp [intOf]; omega
              · have HF : Hid (v = false) := Lib.hid (bool_neg HV.out (fun h => h5 (by have := h.2.2.2.2 s (List.mem_of_getElem? HS.out); rw [HNI.out] at this; exact this)))
                go_wp2_with fail
                refine (small_any s.x s.y A' ni c' w5 false (decide_eq_false (by omega))).mono ?_
                rintro e w6 ⟨rfl, hb6⟩
                have HB6 := Lib.hid (HBW5.out.trans (hb6.mono HBW5.out.size))
                clear hb6 e0 e1 e2 el
                go_wp2
                go_ret
                exact ⟨ret_bool HF.out.symm, HB6.out⟩
            · have HF : Hid (v = true) := Lib.hid (HV.out.2 ⟨by rw [HN.out]; exact h1, H2.out, H3.out, h4, fun s hs => HL.out s (by rw [List.take_of_length_le (by rw [HN.out]; omega)]; exact hs)⟩)
              go_wp2
              go_ret
              exact ⟨ret_bool HF.out.symm, HBW.out⟩
end Go.Proofs.Ytkpblieanejmeaa
namespace Go.UtYtkpblieanejmeaa
open Go.RowKit
theorem array9' {α : Type} {cs : Array α} (h : cs.size = 9) : ∃ c0 c1 c2 c3 c4 c5 c6 c7 c8, cs = #[c0, c1, c2, c3, c4, c5, c6, c7, c8] := by
  obtain ⟨l⟩ := cs
  match l, h with
  | [c0, c1, c2, c3, c4, c5, c6, c7, c8], _ => exact ⟨c0, c1, c2, c3, c4, c5, c6, c7, c8, rfl⟩
theorem flat5 : ∀ {vss : List (List Value)}, (∀ cs ∈ vss, cs.length = 5) → vss.flatten.length = vss.length * 5 ∧ ∀ (k : Nat) (cs : List Value), vss[k]? = some cs → ∀ j, j < 5 → vss.flatten[k * 5 + j]? = cs[j]?
  | [], _ => ⟨rfl, fun k cs h => by simp at h⟩
  | c :: vss, h => by
    have hc := h c (by simp)
    obtain ⟨h1, h2⟩ := flat5 (vss := vss) (fun cs hcs => h cs (List.mem_cons_of_mem _ hcs))
    refine ⟨by rw [List.flatten_cons, List.length_append, h1, hc, List.length_cons]; omega, fun k cs hk j hj => ?_⟩
    rw [List.flatten_cons]
    cases k with
    | zero =>
      simp at hk
      subst hk
      rw [List.getElem?_append_left (by omega)]
      congr 1
      omega
    | succ k =>
      rw [List.getElem?_append_right (by omega)]
      have := h2 k cs (by simpa using hk) j hj
      rw [← this]
      congr 1
      omega
end Go.UtYtkpblieanejmeaa
namespace Go.Proofs.Ytkpblieanejmeaa
open Go.RowKit Go.ChangeShapes Go.WideShapes Go.Deep Go.Joins Go.UtYtkpblieanejmeaa
theorem cel_e : Try.prog.cellsOf 46 = 3 := by kernel_rfl
theorem cel_b : Try.prog.cellsOf 4 = 1 := by kernel_rfl
theorem cel_stp : Try.prog.cellsOf 48 = 5 := by kernel_rfl
theorem cel_stt : Try.prog.cellsOf 33 = 9 := by kernel_rfl
section
variable {H : Type} {enc : TypeId × Value → H} {W : World} {n : Nat} {x : DataW H × List MemPlace}
set_option maxRecDepth 100000 in
theorem open_edt {cs : List Value} (h : DataW.trod enc Try.prog W 0 (fun _ => true) true n 46 cs = some x) :
    ∃ (a b : Int) (A : Option Addr) (c : Nat) (ins : List Int), cs = [.int .i64 a, .int .i64 b, .slice A ins.length c] ∧ ins.length ≤ c ∧ c ≤ maxLen ∧ Row W W.heap.size A (ints ins) := by
  obtain ⟨y0, y1, y2, m, -, hl, g0, g1, g2⟩ := trod_struct3 (f0 := ⟨ "At", 3, 0, false, "", "", 0⟩) (f1 := ⟨ "Del", 3, 1, false, "", "", 8⟩) (f2 := ⟨ "Ins", 26, 2, false, "", "", 16⟩) Try.underlying46 h
  rw [cel_e] at hl
  match cs, hl with
  | [a, b, c], _ =>
    simp only [cel_i, cel_si, List.drop_zero, List.take_succ_cons, List.take_zero, List.drop_succ_cons] at g0 g1 g2
    obtain ⟨z0, e0, _⟩ := DataW.trod_int Try.underlying3 g0
    obtain ⟨z1, e1, _⟩ := DataW.trod_int Try.underlying3 g1
    obtain ⟨A1, c1, l1, rfl, p1, q1, r1, _⟩ := open_row Try.underlying26 Try.underlying3 cel_i g2
    exact ⟨z0, z1, A1, c1, l1, by rw [List.cons.inj e0 |>.1, List.cons.inj e1 |>.1], p1, q1, r1⟩
set_option maxRecDepth 100000 in
theorem open_prp {cs : List Value} (hf : DataW.trod enc Try.prog W 0 (fun _ => true) true n 25 cs = some x) :
    ∃ (y : PA) (q : PR), cs = [.slice y.n q.names.length y.cn, .slice y.s q.spans.length y.cs] ∧ PrAt W W.heap.size y q := by
  obtain ⟨y0, y1, m, -, hl, g0, g1⟩ := trod_struct2 (f0 := ⟨ "Names", 22, 0, false, "", "", 0⟩) (f1 := ⟨ "Spans", 23, 1, false, "", "", 24⟩) Try.underlying25 hf
  rw [cel_p] at hl
  match cs, hl with
  | [a, b], _ =>
    simp only [cel_sl, cel_ssp, List.drop_zero, List.take_succ_cons, List.take_zero, List.drop_succ_cons] at g0 g1
    obtain ⟨A0, k0, l0, rfl, p0, q0, r0⟩ := open_strl Try.underlying22 Try.underlying9 cel_s g0
    obtain ⟨A1, k1, l1, rfl, p1, q1, r1⟩ := open_spans g1
    exact ⟨⟨A0, A1, k0, k1⟩, ⟨l0, l1⟩, rfl, ⟨r0, p0, q0⟩, r1, p1, q1⟩
set_option maxRecDepth 100000 in
theorem open_start54 {v : Value} {d : DataW H} {p : List MemPlace} {base : Nat} (hv : Value.okWide Try.prog W .any base 33 v) (h : DataW.Trod enc Try.prog W 0 (fun _ => true) true 33 v d p) :
    ∃ (xp : PA) (q : PR) (y : TA) (t : BT) (A : Option Addr) (c : Nat) (X : List Int), v = .agg (startC xp q y t A X.length c) ∧ PrAt W W.heap.size xp q ∧ TabAt W W.heap.size y t ∧ X.length ≤ c ∧ c ≤ maxLen ∧ Row W W.heap.size A (ints X) := by
  obtain ⟨cs, rfl, hsz⟩ := okWide_struct Try.underlying33 hv
  rw [cel_stt] at hsz
  obtain ⟨c0, c1, c2, c3, c4, c5, c6, c7, c8, rfl⟩ := array9' hsz
  obtain ⟨fuel, hf⟩ := h
  obtain ⟨y0, y1, y2, m, -, hl, g0, g1, g2⟩ := trod_struct3 (f0 := ⟨ "Property", 25, 0, false, "", "", 0⟩) (f1 := ⟨ "Table", 31, 2, false, "", "", 48⟩) (f2 := ⟨ "Text", 26, 8, false, "", "", 192⟩) Try.underlying33 hf
  simp only [Value.cells, cel_p, cel_t, cel_si, List.drop_zero, List.take_succ_cons, List.take_zero, List.drop_succ_cons] at g0 g1 g2
  obtain ⟨xp, q, e0, hP⟩ := open_prp g0
  obtain ⟨y, t, e1, hT⟩ := open_tab g1
  obtain ⟨A1, k1, l1, rfl, p1, q1, r1, _⟩ := open_row Try.underlying26 Try.underlying3 cel_i g2
  simp [TA.cs] at e0 e1
  obtain ⟨rfl, rfl⟩ := e0
  obtain ⟨rfl, rfl, rfl, rfl, rfl, rfl⟩ := e1
  exact ⟨xp, q, y, t, A1, k1, l1, rfl, hP, hT, p1, q1, r1⟩
set_option maxRecDepth 100000 in
theorem open_edit54 {v : Value} {d : DataW H} {p : List MemPlace} {base : Nat} (hv : Value.okWide Try.prog W .any base 46 v) (h : DataW.Trod enc Try.prog W 0 (fun _ => true) true 46 v d p) :
    ∃ (a b : Int) (A : Option Addr) (c : Nat) (ins : List Int), v = .agg #[.int .i64 a, .int .i64 b, .slice A ins.length c] ∧ ins.length ≤ c ∧ c ≤ maxLen ∧ Row W W.heap.size A (ints ins) := by
  obtain ⟨cs, rfl, hsz⟩ := okWide_struct Try.underlying46 hv
  rw [cel_e] at hsz
  obtain ⟨c0, c1, c2, rfl⟩ := array3' hsz
  obtain ⟨fuel, hf⟩ := h
  obtain ⟨a, b, A, c, ins, e, h1, h2, h3⟩ := open_edt hf
  simp [Value.cells] at e
  obtain ⟨rfl, rfl, rfl⟩ := e
  exact ⟨a, b, A, c, ins, rfl, h1, h2, h3⟩
set_option maxRecDepth 100000 in
theorem open_steps {v : Value} (h : DataW.trod enc Try.prog W 0 (fun _ => true) true n 34 [v] = some x) :
    ∃ (A : Option Addr) (c : Nat) (l : List St), v = .slice A l.length c ∧ l.length ≤ c ∧ c ≤ maxLen ∧ StepsAt W W.heap.size A l := by
  obtain ⟨A, c, l, vss, rfl, h1, h2, h3, h4, h5, h6⟩ := open_listN (fun cs (s : St) => ∃ A' c', cs = [.int .i64 s.x, .int .i64 s.y, .slice A' s.ins.length c', .bool s.un, .int .i64 s.pos] ∧ s.ins.length ≤ c' ∧ c' ≤ maxLen ∧ Row W W.heap.size A' (ints s.ins)) (sz := 5) (by omega) Try.underlying34 cel_stp (fun n cs x hx => by
    obtain ⟨y0, y1, y2, m, -, hl, g0, g1, g2⟩ := trod_struct3 (f0 := ⟨ "Edit", 46, 0, false, "", "", 0⟩) (f1 := ⟨ "Undo", 4, 3, false, "", "", 40⟩) (f2 := ⟨ "At", 3, 4, false, "", "", 48⟩) Try.underlying48 hx
    rw [cel_stp] at hl
    match cs, hl with
    | [a, b, c, d, e], _ =>
      simp only [cel_e, cel_b, cel_i, List.drop_zero, List.take_succ_cons, List.take_zero, List.drop_succ_cons] at g0 g1 g2
      obtain ⟨a', b', A', c', ins, e0, q1, q2, q3⟩ := open_edt g0
      obtain ⟨z1, e1, _⟩ := DataW.trod_bool Try.underlying4 g1
      obtain ⟨z2, e2, _⟩ := DataW.trod_int Try.underlying3 g2
      simp at e0 e1 e2
      obtain ⟨rfl, rfl, rfl⟩ := e0
      subst e1 e2
      exact ⟨⟨a', b', ins, z1, z2⟩, A', c', rfl, q1, q2, q3⟩) h
  obtain ⟨f1, f2⟩ := flat5 h4
  refine ⟨A, c, l, rfl, h1, h2, vss.flatten, by rw [f1, h3], h5, fun k s hk => ?_⟩
  obtain ⟨cs, g1, A', c', rfl, g2, g3, g4⟩ := h6 k s hk
  have g := f2 k _ g1
  exact ⟨A', c', ⟨g 0 (by omega), g 1 (by omega), g 2 (by omega), g 3 (by omega), g 4 (by omega)⟩, g2, g3, g4⟩
end
end Go.Proofs.Ytkpblieanejmeaa
