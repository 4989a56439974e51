/-
  cpset.Make: walk.
-/
import Derived.Test.YtjohoohdjlajcaaProg
import Derived.Test.YtjohoohdjlajcaaBase
import Derived.Test.YtjohoohdjlajcaaApp
import Derived.Test.YtjohoohdjlajcaaCs5
import Derived.Test.YtjohoohdjlajcaaTree
import Derived.Laws.OwnMore
import Derived.WalkKit
import Derived.Deep.QuietTactic
import Derived.BigQuiet
import Derived.Deep.DeepCutAuto
import Derived.KernelRfl
import Derived.Outline
import Derived.IntWalk
namespace Go.Proofs.Ytjohoohdjlajcaa
open Go.RowKit Go.UtYtjohoohdjlajcaa
theorem own_keep {w w' : World} {base e size n : Nat} {v : Value} {xs : List Value} (h : w.ownsRow base e size v n xs) (hk : ∀ g, base ≤ g → g < w.heap.size → w'.heap[g]? = w.heap[g]?) : w'.ownsRow base e size v n xs := by
  obtain ⟨h1, h⟩ := h
  refine ⟨h1, ?_⟩
  rcases h with h | ⟨g', cap, cur, hv, hb, hg, h⟩
  · exact Or.inl h
  · exact Or.inr ⟨g', cap, cur, hv, hb, (hk g' hb (Array.getElem?_eq_some_iff.1 hg).1).trans hg, h⟩
theorem own_alloc {w : World} {base e size n : Nat} {v : Value} {xs : List Value} (h : w.ownsRow base e size v n xs) (o : Obj) : (w.alloc o).ownsRow base e size v n xs :=
  own_keep h fun g _ hg => Below.heap_alloc w o g hg
theorem parts_in_ {l : List Rg} {k : Nat} {r : Rg} (h : l[k]? = some r) (hc : max r.1 0 ≤ min r.2 1114111) : parts (l.take (k + 1)) = parts (l.take k) ++ [(max r.1 0, min r.2 1114111)] := by
  obtain ⟨hk, e⟩ := List.getElem?_eq_some_iff.1 h
  rw [List.take_succ_eq_append_getElem hk, e]
  simp [parts, clip, okR, hc]
theorem parts_out_ {l : List Rg} {k : Nat} {r : Rg} (h : l[k]? = some r) (hc : ¬ max r.1 0 ≤ min r.2 1114111) : parts (l.take (k + 1)) = parts (l.take k) := by
  obtain ⟨hk, e⟩ := List.getElem?_eq_some_iff.1 h
  rw [List.take_succ_eq_append_getElem hk, e]
  simp only [parts, List.map_append, List.filter_append, List.map_cons, List.map_nil]
  rw [List.filter_cons_of_neg (show ¬ okR (clip r) = true from fun h => hc (of_decide_eq_true h))]
  simp
theorem blk_grown {w w' : World} {g t : Nat} {cs : Array Value} {row : Option Nat} (h : Blk w g t cs) (hg : w.grownBy w' row) (hr : some g ≠ row) : Blk w' g t cs := (hg.block g h.lt hr).trans h
theorem own_drewN {w : World} {base e size n : Nat} {v : Value} {xs : List Value} (h : w.ownsRow base e size v n xs) (k : Nat) : (w.drewN k).ownsRow base e size v n xs := h
theorem row_new (w : World) (k : Nat) (t : TypeId) (x y : Value) : Row ((w.drewN k).alloc (.cells #[x, y] t)) (w.heap.size + 1) (some ⟨w.heap.size, 0, none⟩) [x, y] := by
  have := (Blk.new (w.drewN k) t #[x, y]).row rfl
  simpa using this
theorem rgs_set (os : List Rg) (s : Rg) (m : Nat) (hm : m = os.length) (y : Int) : (rgs (os ++ [s])).set (m * 2 + 1) (.int .i64 y) = rgs (os ++ [(s.1, y)]) := by
  rw [rgs_append, rgs_append, List.set_append_right _ _ (by rw [rgs_len]; omega), rgs_len, hm, show os.length * 2 + 1 - os.length * 2 = 1 by omega]
  rfl
/-- The call returns the valid set of the numbers of which P holds; nothing older has changed. -/
theorem own_mono {w : World} {base base' e size n : Nat} {v : Value} {xs : List Value} (h : w.ownsRow base e size v n xs) (hb : base' ≤ base) : w.ownsRow base' e size v n xs := by
  refine ⟨h.1, ?_⟩
  rcases h.2 with h' | ⟨g, cap, cur, hv, hg, h'⟩
  · exact .inl h'
  · exact .inr ⟨g, cap, cur, hv, Nat.le_trans hb hg, h'⟩
/-- The call returns the valid set of the numbers P, in a row of its own. -/
def RetSetO (w : World) (P : Int → Prop) (e : Ending) (w' : World) : Prop :=
  ∃ (A : Option Addr) (c : Nat) (r : List Rg), e = .returned (.agg #[.slice A r.length c]) ∧ Cnn r ∧ (∀ x, hasP r x ↔ P x) ∧ w'.ownsRow (w.heap.size + 1) 71 2 (.slice A r.length c) r.length (rgs r) ∧ Below w.heap.size w w'
def RetSet (w : World) (P : Int → Prop) (e : Ending) (w' : World) : Prop :=
  ∃ (A : Option Addr) (c : Nat) (r : List Rg), e = .returned (.agg #[.slice A r.length c]) ∧ Cnn r ∧ (∀ x, hasP r x ↔ P x) ∧ Row w' w'.heap.size A (rgs r) ∧ Below w.heap.size w w'
theorem memR_perm {a b : List Rg} (h : a.Perm b) (c : Int) : memR a c ↔ memR b c :=
  ⟨fun ⟨r, hr, h'⟩ => ⟨r, h.mem_iff.1 hr, h'⟩, fun ⟨r, hr, h'⟩ => ⟨r, h.mem_iff.2 hr, h'⟩⟩
theorem own_slice {w : World} {base e size n m : Nat} {v : Value} {xs : List Value} (h : w.ownsRow base e size v n xs) (hm : m = n) : ∃ A c, v = .slice A m c := by
  subst hm
  obtain ⟨A, c, h, _⟩ := own_row h
  exact ⟨A, c, h⟩
set_option maxRecDepth 100000 in
set_option maxHeartbeats 1000000 in
theorem make_own (A : Option Addr) (c : Nat) (l : List Rg) (w : World) (hR : Row w w.heap.size A (rgs l)) (hm : l.length ≤ 1099511627776) :
    Calls Try.prog 57 #[.slice A l.length c] w (RetSetO w (hasP l)) := by
  have HR := Lib.hid hR
  clear hR
  obtain ⟨i0, hi0, hz0, hz1, hz2⟩ := info_parts rg_info
  obtain ⟨w1, h1, HB1, HX1⟩ : ∃ w1, w1 = w.alloc (.cells #[.slice none 0 0] 45) ∧ Hid (Below w.heap.size w w1) ∧ Hid (Blk w1 w.heap.size 45 #[.slice none 0 0]) := ⟨_, rfl, (Below.refl _ _).alloc (Nat.le_refl _) _, Blk.new _ _ _⟩
  go_enter Try.func57, Try.ntmps57
  go_wp2
  rw [← h1]
  clear h1
  go_loopw [13, 3] (fun i p wr => ∃ (k n c' : Nat) (A' : Option Addr), k ≤ l.length ∧ i = .int .i64 (k : Int) ∧ p = .slice A' n c' ∧ n ≤ k ∧ Hid (wr.ownsRow (w.heap.size + 1) 71 2 (.slice A' n c') n (rgs (parts (l.take k)))) ∧ Hid (Below w.heap.size w wr) ∧ Hid (Blk wr w.heap.size 45 #[.slice none 0 0])) (fun i _ _ => l.length - (intOf i).toNat)
  case atStart => exact ⟨0, 0, 0, none, by omega, rfl, rfl, by omega, own_nil _, HB1, HX1⟩
  case round =>
    obtain ⟨k, n, c', A', hk, rfl, rfl, hn, HO, HB, HX⟩ := hrel
    by_cases h1 : k < l.length
    · obtain ⟨b, o, lo, hi, rfl, hb, hx, c1, c2⟩ := at_rg (HR.out.below HB.out) h1
      have hsz := HB.out.size
      by_cases h2 : max lo 0 ≤ min hi 1114111
      · have HP := Lib.hid (parts_in_ hx.out h2)
        obtain ⟨v3, hv3, HO3, HB3, HX3, HR3⟩ : ∃ v3, v3 = ((wr.alloc (Obj.cells #[Value.int IntKind.i64 lo, Value.int IntKind.i64 hi] 71)).alloc (Obj.cells #[Value.int IntKind.i64 (max lo 0), Value.int IntKind.i64 (min hi 1114111)] 71)).alloc (Obj.cells #[Value.int IntKind.i64 (max lo 0), Value.int IntKind.i64 (min hi 1114111)] 71) ∧ Hid (v3.ownsRow (w.heap.size + 1) 71 2 (.slice A' n c') n (rgs (parts (l.take k)))) ∧ Hid (Below w.heap.size w v3) ∧ Hid (Blk v3 w.heap.size 45 #[.slice none 0 0]) ∧ Hid (Row v3 v3.heap.size (some ⟨wr.heap.size + 1 + 1, 0, none⟩) [Value.int IntKind.i64 (max lo 0), Value.int IntKind.i64 (min hi 1114111)]) :=
          ⟨_, rfl, own_alloc (own_alloc (own_alloc HO.out _) _) _, ((HB.out.alloc hsz _).alloc (by simp; omega) _).alloc (by simp; omega) _, ((HX.out.alloc _).alloc _).alloc _, by
            have := (Blk.new ((wr.alloc (Obj.cells #[Value.int IntKind.i64 lo, Value.int IntKind.i64 hi] 71)).alloc (Obj.cells #[Value.int IntKind.i64 (max lo 0), Value.int IntKind.i64 (min hi 1114111)] 71)) 71 #[Value.int IntKind.i64 (max lo 0), Value.int IntKind.i64 (min hi 1114111)]).row rfl
            rw [show (((wr.alloc (Obj.cells #[Value.int IntKind.i64 lo, Value.int IntKind.i64 hi] 71)).alloc (Obj.cells #[Value.int IntKind.i64 (max lo 0), Value.int IntKind.i64 (min hi 1114111)] 71)).heap.size) = wr.heap.size + 1 + 1 by simp] at this
            exact this⟩
        go_wp2_with (first
          | (at_builtin
             rw [← hv3]
             refine wpList_append_row _ rfl (.tmp 29) (.tmp 31) _ rfl (w.heap.size + 1) 71 i0 _ 2 16 Try.underlying43 hi0 hz0 hz1 hz2 rfl (by omega) (.slice A' n c') n (rgs (parts (l.take k))) rfl HO3.out _ _ 1 1 [Value.int IntKind.i64 (max lo 0), Value.int IntKind.i64 (min hi 1114111)] rfl rfl HR3.out (by simp [Value.oneCell']) (by simp only [maxLen]; omega) (by omega) HX3.out.lt ?_
             intro q4 w4 o4 g4 t4
             obtain ⟨A4, c4, rfl⟩ := own_slice o4 rfl
             have HB4 : Hid (Below w.heap.size w w4) := HB3.out.grown g4 HB3.out.size (fun g hg => Nat.le_of_succ_le (own_base HO3.out g hg))
             have HX4 : Hid (Blk w4 w.heap.size 45 #[.slice none 0 0]) := blk_grown HX3.out g4 (fun e => by have := own_base HO3.out _ e.symm; omega)
             have HO4 := Lib.hid o4
             clear o4 g4 t4))
        go_roundw
        case rel => exact ⟨k+1, n+1, c4, A4, by omega, by go_num, rfl, by omega, by rw [HP.out, rgs_append]; exact HO4, HB4, HX4⟩
        case measure => simp [intOf]; omega
      · have HP := Lib.hid (parts_out_ hx.out h2)
        go_wp2
        go_roundw
        case rel => exact ⟨k+1, n, c', A', by omega, by go_num, rfl, by omega, by rw [HP.out]; exact own_alloc (own_alloc HO.out _) _, (HB.out.alloc hsz _).alloc (by simp; omega) _, (HX.out.alloc _).alloc _⟩
        case measure => simp [intOf]; omega
    · obtain rfl : k = l.length := by omega
      rw [List.take_length] at HO
      go_wp2_with (first | (go_at_call 62; refine (sortR_any _ _ _ _ _ _ HO.out (by omega)).mono ?_; rintro e wS ⟨rfl, l', hp, hs, ho, hbS⟩))
      have HBS := Lib.hid (HB.out.trans (hbS.mono (Nat.le_succ _)))
      have HXS : Hid (Blk wS w.heap.size 45 #[.slice none 0 0]) := HX.out.below hbS (Nat.lt_succ_self _)
      obtain ⟨Ax, cx, e, -, -, hrow⟩ := own_row ho
      obtain ⟨rfl, rfl⟩ : A' = Ax ∧ c' = cx := by injection e with e1 e2 e3; exact ⟨e1, e3⟩
      have hnl : n = l'.length := by have := ho.1; rw [rgs_len] at this; omega
      have HPR := Lib.hid hrow
      have HNL := Lib.hid hnl
      have HIN : Hid (∀ r ∈ l', inside r) := fun r hr => parts_in l r (hp.mem_iff.1 hr)
      have HPM : Hid (l'.Perm (parts l)) := hp
      have HST := Lib.hid hs
      clear e hrow hnl hp hs ho hbS HO HB HX HB1 HX1 HR w1 wr h1 hk
      go_loopw [38, 7] (fun i p wr => ∃ (k n2 c2 : Nat) (A2 : Option Addr), k ≤ n ∧ i = .int .i64 (k : Int) ∧ p = .slice A2 n2 c2 ∧ n2 ≤ k ∧ Hid (wr.ownsRow wS.heap.size 71 2 (.slice A2 n2 c2) n2 (rgs ((l'.take k).foldl mrg []))) ∧ Hid (Below wS.heap.size wS wr)) (fun i _ _ => n - (intOf i).toNat)
      case atStart => exact ⟨0, 0, 0, none, by omega, rfl, rfl, by omega, own_nil _, Below.refl _ _⟩
      case round =>
        obtain ⟨k, n2, c2, A2, hk, rfl, rfl, hn2, HO, HB⟩ := hrel
        by_cases h1 : k < n
        · have hl1 : k < l'.length := by have := HNL.out; omega
          obtain ⟨b, o, lo, hi, rfl, hb, hx, c1, c2'⟩ := at_rg (HPR.out.below HB.out) hl1
          have hsz := HB.out.size
          have HIR : Hid (inside (lo, hi)) := HIN.out _ (List.mem_of_getElem? hx.out)
          obtain ⟨ot, HE, HE2⟩ : ∃ ot, Hid ((l'.take k).foldl mrg [] = ot) ∧ Hid ((l'.take (k + 1)).foldl mrg [] = mrg ot (lo, hi)) := ⟨_, rfl, by
            show _ = _
            obtain ⟨hk', e⟩ := List.getElem?_eq_some_iff.1 hx.out
            rw [List.take_succ_eq_append_getElem hk', e, List.foldl_append]
            rfl⟩
          have HM := Lib.hid (mrg_all HST.out HIN.out k (by omega))
          rw [HE.out] at HO HM
          obtain ⟨v, hv, HBv, HCv, HOv, hvs⟩ : ∃ v, v = wr.alloc (Obj.cells #[Value.int IntKind.i64 lo, Value.int IntKind.i64 hi] 71) ∧ Hid (Below wS.heap.size wS v) ∧ Hid (Blk v wr.heap.size 71 #[Value.int IntKind.i64 lo, Value.int IntKind.i64 hi]) ∧ Hid (v.ownsRow wS.heap.size 71 2 (.slice A2 n2 c2) n2 (rgs ot)) ∧ Hid (v.heap.size = wr.heap.size + 1) := ⟨_, rfl, HB.out.alloc hsz _, Blk.new _ _ _, own_alloc HO.out _, by show _ = _; simp⟩
          have hsv := HBv.out.size
          have c3 := HCv.out.cell 0
          have c4 := HCv.out.cell 1
          simp at c3 c4
          rcases snoc_cases ot with rfl | ⟨os, s, rfl⟩
          · have h20 : n2 = 0 := by have := HO.out.1; simp [rgs] at this; omega
            subst h20
            go_wp2
            rw [← hv]
            clear hv
            go_quiet (fail)
            go_wp2_with (first
              | (at_builtin
                 refine wpList_append_row _ rfl (.tmp 72) (.tmp 74) _ rfl wS.heap.size 71 i0 _ 2 16 Try.underlying43 hi0 hz0 hz1 hz2 rfl (by omega) (.slice A2 0 c2) 0 (rgs []) rfl (own_alloc (own_drewN HOv.out _) _) (v.heap.size + 1) _ 1 1 [Value.int IntKind.i64 lo, Value.int IntKind.i64 hi] rfl rfl (row_new v _ _ _ _) (by simp [Value.oneCell']) (by simp only [maxLen]; omega) (by omega) (by simp; omega) ?_
                 intro q4 w4 o4 g4 t4
                 obtain ⟨A4, c4, rfl⟩ := own_slice o4 rfl
                 have HB4 : Hid (Below wS.heap.size wS w4) := ((below_drewN HBv.out _).alloc (by simp; omega) _).grown g4 (by simp; omega) (fun g hg => own_base HOv.out g hg)
                 have HO4 := Lib.hid o4
                 clear o4 g4 t4))
            go_roundw
            case rel => exact ⟨k+1, 1, c4, A4, by omega, by go_num, rfl, by omega, by rw [HE2.out]; exact HO4, HB4⟩
            case measure => simp [intOf]; omega
          · have hos : n2 = os.length + 1 := by have := HO.out.1; rw [rgs_len] at this; simp at this; omega
            obtain ⟨m, hm'⟩ : ∃ m, m = os.length := ⟨_, rfl⟩
            obtain rfl : n2 = m + 1 := by omega
            obtain ⟨g, cg, hg⟩ : ∃ g cg, Value.slice A2 (m + 1) c2 = .slice (some ⟨g, 0, none⟩) (m + 1) cg := by
              rcases HO.out.2 with ⟨h, h'⟩ | ⟨g, cap, cur, h, _⟩
              · omega
              · exact ⟨g, cap, h⟩
            obtain ⟨rfl, rfl⟩ : A2 = some ⟨g, 0, none⟩ ∧ c2 = cg := by injection hg with e1 e2 e3; exact ⟨e1, e3⟩
            clear hg
            obtain ⟨g1, g2⟩ := rgs_get (l := os ++ [s]) (k := m) (r := s) (by subst hm'; simp)
            have c5 := (HOv.out.cellAt (m * 2) (by omega)).trans g1
            have c6 := (HOv.out.cellAt (m * 2 + 1) (by omega)).trans g2
            have f6 := HOv.out.frozenAt (m * 2 + 1)
            have HS2 : Hid (0 ≤ s.2 ∧ s.2 ≤ 1114111) := by
              have := (CanFrom.snoc.1 HM.out.1).2.2
              exact ⟨by omega, by omega⟩
            have hs2 := HS2.out
            have HG12 : Hid ((rgs (os ++ [s]))[m * 2]? = some (.int .i64 s.1) ∧ (rgs (os ++ [s]))[m * 2 + 1]? = some (.int .i64 s.2)) := ⟨g1, g2⟩
            have HMO := Lib.hid hm'
            have hgl : g < wr.heap.size := by
              rcases HO.out.2 with ⟨h, h'⟩ | ⟨g', cap, cur, h, _, hh, _⟩
              · omega
              · injection h with e1
                injection e1 with e1
                injection e1 with e1
                subst e1
                exact (Array.getElem?_eq_some_iff.1 hh).1
            clear g1 g2 hos hm'
            by_cases h3 : lo ≤ s.2 + 1
            · go_wp2
              rw [← hv]
              clear hv
              go_quiet (fail)
              go_wp2
              obtain ⟨d, hd, HCd, q1, q2, q3, HOd, HBd⟩ : ∃ d, d = (v.drewN nq).drew ∧ Blk d wr.heap.size 71 #[Value.int IntKind.i64 lo, Value.int IntKind.i64 hi] ∧ d.cell? ⟨g, m * 2 + 1, none⟩ = some (Value.int IntKind.i64 s.2) ∧ d.frozen? ⟨g, m * 2 + 1, none⟩ = false ∧ d.cell? ⟨wr.heap.size, 1, none⟩ = some (Value.int IntKind.i64 hi) ∧ Hid (d.ownsRow wS.heap.size 71 2 (.slice (some ⟨g, 0, none⟩) (m + 1) c2) (m + 1) (rgs (os ++ [s]))) ∧ Hid (Below wS.heap.size wS d) := ⟨_, rfl, HCv.out, c6, f6, c4, HOv, below_drewN (below_drewN HBv.out nq) 1⟩
              have k4 : IntKind.i64.wrap ((m : Int) + 1 - 1) = (m : Int) := by rw [show (m : Int) + 1 - 1 = m by omega]; exact IntWalk.i64_in _ (by omega)
              have k5 : IntKind.i64.wrap (m : Int) = (m : Int) := IntWalk.i64_in _ (by omega)
              have k6 : (m : Int) + 1 - 1 = m := by omega
              have k7 : (m : Int) < (m : Int) + 1 := by omega
              refine wp_region_tree (fun w' => w'.cell? ⟨wr.heap.size, 1, none⟩ = some (Value.int IntKind.i64 hi)) (.float 0 (.float 1 (.float 2 (.float 3 (.float 4 (.float 5 (.float 6 (.float 7 (.float 9 (.float 10 (.one 8 (.float 11 (.float 12 (.float 13 (.one 14 .done))))))))))))))) (by kernel_rfl) (by kernel_rfl) (fun _ _ d _ _ h => by cases d <;> exact h) (hd ▸ q3) ?_
              rw [← hd]
              clear hd
              repeat (first
                | (refine wpTr_fskip (by simp only [List.getElem?_toArray, List.getElem?_cons_zero, List.getElem?_cons_succ]; rfl) (by rfl) ?_
                   simp only [Act.put, List.setIfInBounds_toArray, List.set_cons_zero, List.set_cons_succ])
                | (refine wpTr_float (v := ?_) (by simp only [List.getElem?_toArray, List.getElem?_cons_zero, List.getElem?_cons_succ]; rfl) (by rfl) (fun w' hS => ?_) ?_
                   rotate_left
                   (have hS1 : w'.cell? ⟨wr.heap.size, 1, none⟩ = some (Value.int IntKind.i64 hi) := hS; go_simp; first | done | rfl)
                   simp only [Act.put, List.setIfInBounds_toArray, List.set_cons_zero, List.set_cons_succ]))
              refine wpTr_one ?_
              refine stepTr_K (by simp only [List.getElem?_toArray, List.getElem?_cons_zero, List.getElem?_cons_succ]; rfl) (by rfl) (fun K hK => ?_)
              go_simp
              refine hK.out _ _ q3 ?_
              clear hK K
              try simp only [Act.put, List.setIfInBounds_toArray, List.set_cons_zero, List.set_cons_succ]
              repeat (first
                | (refine wpTr_fskip (by simp only [List.getElem?_toArray, List.getElem?_cons_zero, List.getElem?_cons_succ]; rfl) (by rfl) ?_
                   simp only [Act.put, List.setIfInBounds_toArray, List.set_cons_zero, List.set_cons_succ])
                | (refine wpTr_float (v := ?_) (by simp only [List.getElem?_toArray, List.getElem?_cons_zero, List.getElem?_cons_succ]; rfl) (by rfl) (fun w' hS => ?_) ?_
                   rotate_left
                   (have hS1 : w'.cell? ⟨wr.heap.size, 1, none⟩ = some (Value.int IntKind.i64 hi) := hS; go_simp; first | done | rfl)
                   simp only [Act.put, List.setIfInBounds_toArray, List.set_cons_zero, List.set_cons_succ]))
              refine wpTr_one ?_
              refine stepTr_K (by simp only [List.getElem?_toArray, List.getElem?_cons_zero, List.getElem?_cons_succ]; rfl) (by rfl) (fun K hK => ?_)
              go_simp
              refine hK.out _ _ ((HCd.far (p := ⟨g, m * 2 + 1, none⟩) (by simp; omega) _).cell 1) ?_
              clear hK K
              try simp only [Act.put, List.setIfInBounds_toArray, List.set_cons_zero, List.set_cons_succ]
              refine wpTr_done ?_
              go_wp2
              obtain ⟨t1, t2⟩ := HOd.out.stored (m * 2 + 1) (Value.int IntKind.i64 (max s.2 hi))
              rw [rgs_set os s m HMO.out] at t1
              go_roundw
              case rel => exact ⟨k+1, m + 1, c2, _, by omega, by go_num, rfl, by omega, by rw [HE2.out, mrg_in (s := s) (r := (lo, hi)) h3]; exact t1, HBd.out.grown t2 HBd.out.size (fun g' hg' => own_base HOd.out g' hg')⟩
              case measure => simp [intOf]; omega
            · go_wp2
              rw [← hv]
              clear hv
              go_quiet (fail)
              go_wp2_with (first
                | (at_builtin
                   refine wpList_append_row _ rfl (.tmp 72) (.tmp 74) _ rfl wS.heap.size 71 i0 _ 2 16 Try.underlying43 hi0 hz0 hz1 hz2 rfl (by omega) (.slice (some ⟨g, 0, none⟩) (m + 1) c2) (m + 1) (rgs (os ++ [s])) rfl (own_alloc (own_drewN HOv.out _) _) (v.heap.size + 1) _ 1 1 [Value.int IntKind.i64 lo, Value.int IntKind.i64 hi] rfl rfl (row_new v _ _ _ _) (by simp [Value.oneCell']) (by simp only [maxLen]; omega) (by omega) (by simp; omega) ?_
                   intro q4 w4 o4 g4 t4
                   obtain ⟨A4, c4, rfl⟩ := own_slice o4 rfl
                   have HB4 : Hid (Below wS.heap.size wS w4) := ((below_drewN HBv.out _).alloc (by simp; omega) _).grown g4 (by simp; omega) (fun g hg => own_base HOv.out g hg)
                   have HO4 := Lib.hid o4
                   clear o4 g4 t4))
              go_roundw
              case rel => exact ⟨k+1, m + 1 + 1, c4, A4, by omega, by go_num, rfl, by omega, by rw [HE2.out, mrg_out (s := s) (r := (lo, hi)) (Int.not_le.2 h3), rgs_append]; exact HO4, HB4⟩
              case measure => simp [intOf]; omega
        · obtain rfl : k = n := by omega
          have HM := Lib.hid (mrg_all HST.out HIN.out k (by have := HNL.out; omega))
          have htl : l'.take k = l' := by rw [HNL.out, List.take_length]
          rw [htl] at HO HM
          obtain ⟨r, hr⟩ : ∃ r, r = l'.foldl mrg [] := ⟨_, rfl⟩
          rw [← hr] at HO HM
          obtain ⟨Ax, cx, e, -, -, hrow⟩ := own_row HO.out
          obtain ⟨rfl, rfl⟩ : A2 = Ax ∧ c2 = cx := by injection e with e1 e2 e3; exact ⟨e1, e3⟩
          have hnl : n2 = r.length := by have := HO.out.1; rw [rgs_len] at this; omega
          subst hnl
          have HRW := Lib.hid hrow
          have HB5 := Lib.hid (HBS.out.trans (HB.out.mono HBS.out.size))
          have HX5 : Hid (Blk wr w.heap.size 45 #[.slice none 0 0]) := HXS.out.below HB.out HXS.out.lt
          have hlx := HX5.out.lt
          have y0 := HX5.out.cell 0
          have z0 := HX5.out.free 0
          simp at y0
          clear e hrow htl hr
          go_wp2
          refine bodyPost_ret (v := .agg #[.slice A2 r.length c2]) ?_ rfl ?_
          · have q0 := (HX5.out.set_ 0 (.slice A2 r.length c2)).cell 0
            simp at q0
            simp [results, Try.results57, go_sem, q0]
          · refine ⟨A2, c2, r, rfl, HM.out.1, fun x => ?_, ?_, HB5.out.setCell (Nat.le_refl _) _⟩
            · rw [can_has HM.out.1, HM.out.2.1, ← mem_parts]
              exact memR_perm HPM.out x
            · have hlt := HXS.out.lt
              exact own_mono (own_keep HO.out fun g hg _ => Below.heap_setCell wr ⟨w.heap.size, 0, none⟩ _ g (by show g ≠ w.heap.size; omega)) hlt
theorem make_any (A : Option Addr) (c : Nat) (l : List Rg) (w : World) (hR : Row w w.heap.size A (rgs l)) (hm : l.length ≤ 1099511627776) :
    Calls Try.prog 57 #[.slice A l.length c] w (RetSet w (hasP l)) := by
  refine (make_own A c l w hR hm).mono ?_
  rintro e w' ⟨A2, c2, r, rfl, h1, h2, h3, h4⟩
  obtain ⟨Ax, cx, e, -, -, hrow⟩ := own_row h3
  obtain ⟨rfl, rfl⟩ : A2 = Ax ∧ c2 = cx := by injection e with e1 e2 e3; exact ⟨e1, e3⟩
  exact ⟨A2, c2, r, rfl, h1, h2, hrow, h4⟩
end Go.Proofs.Ytjohoohdjlajcaa
