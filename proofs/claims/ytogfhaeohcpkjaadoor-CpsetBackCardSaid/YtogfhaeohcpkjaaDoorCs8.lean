/-
  cpset.combine: walk.
-/
import Derived.Test.YtogfhaeohcpkjaaDoorProg
import Derived.Test.YtogfhaeohcpkjaaDoorBase
import Derived.Test.YtogfhaeohcpkjaaDoorApp
import Derived.Test.YtogfhaeohcpkjaaDoorCs7
import Derived.Test.YtogfhaeohcpkjaaDoorTree
import Derived.Laws.OwnMore
import Derived.WalkKit
import Derived.Deep.QuietTactic
import Derived.BigQuiet
import Derived.Deep.DeepCutAuto
import Derived.KernelRfl
import Derived.Outline
import Derived.IntWalk
namespace Go.Proofs.YtogfhaeohcpkjaaDoor
open Go.RowKit Go.UtYtogfhaeohcpkjaaDoor
theorem row_one {w w' : World} {g t B : Nat} {A : Option Addr} {v : Value} {r : List Rg} (hb : Blk w g t #[v]) (h : w.grownBy w' (some g)) (hr : Row w B A (rgs r)) (hB : B ≤ w.heap.size) : Row w' B A (rgs r) := by
  intro hv
  obtain ⟨b, o, hA, hlt, hc⟩ := hr hv
  have hne : b ≠ g := by
    rintro rfl
    have h1 : 1 < (rgs r).length := by
      rcases r with _ | ⟨a, r⟩
      · exact absurd rfl hv
      · rw [rgs_len]; simp; omega
    have := hc 1 _ (List.getElem?_eq_getElem h1)
    rw [hb.cell] at this
    simp at this
  exact ⟨b, o, hA, hlt, fun k v hk => (grown_cell h (p := ⟨b, o + k, none⟩) (by simp; omega) hne).trans (hc k v hk)⟩
theorem row_new0 (w : World) (t : TypeId) (x y : Value) : Row (w.alloc (.cells #[x, y] t)) (w.heap.size + 1) (some ⟨w.heap.size, 0, none⟩) [x, y] := by
  have := (Blk.new w t #[x, y]).row rfl
  simpa using this
theorem CurAt.other {w w' : World} {N gi gl j g t : Nat} {r : List Rg} {v : Value} (h : CurAt w N gi gl r j) (hb : Blk w g t #[v]) (hg : w.grownBy w' (some g)) (h1 : g ≠ gi) (h2 : g ≠ gl) : CurAt w' N gi gl r j := by
  obtain ⟨A, cl, q1, q2⟩ := h.rows
  exact ⟨h.new1, h.new2, h.lt, blk_grown h.idx hg (fun e => h1 (Option.some.inj e).symm), ⟨A, cl, blk_grown q1 hg (fun e => h2 (Option.some.inj e).symm), row_one hb hg q2 (Nat.le_of_lt q1.lt)⟩, h.can, h.le⟩
theorem CurAt.below {w w' : World} {N gi gl j M : Nat} {r : List Rg} (h : CurAt w N gi gl r j) (hb : Below M w w') (hM : gi < M) : CurAt w' N gi gl r j := by
  obtain ⟨A, cl, q1, q2⟩ := h.rows
  have := h.lt
  exact ⟨h.new1, h.new2, h.lt, h.idx.below hb hM, ⟨A, cl, q1.below hb (by omega), q2.below (hb.mono (by omega))⟩, h.can, h.le⟩
theorem CurAt.mono {w : World} {N N' gi gl j : Nat} {r : List Rg} (h : CurAt w N gi gl r j) (hN : N' ≤ N) : CurAt w N' gi gl r j := ⟨Nat.le_trans hN h.new1, Nat.le_trans hN h.new2, h.lt, h.idx, h.rows, h.can, h.le⟩
def LowC (r : List Rg) (j : Nat) (x : Int) : Prop := ∀ (i : Nat) (a : Rg), i < j → r[i]? = some a → a.2 < x
theorem cur_call (gi gl N : Nat) (r : List Rg) (x : Int) (j : Nat) (w : World) (h : CurAt w N gi gl r j) (hx : 0 ≤ x ∧ x ≤ 1114111) (hlow : LowC r j x) :
    Calls Tryd.prog 76 #[.int .i64 x, .pointer (some ⟨gi, 0, none⟩), .pointer (some ⟨gl, 0, none⟩)] w fun e w' => ∃ (b : Bool) (hi : Int) (k : Nat), e = .returned (.tuple #[.bool b, .int .i64 hi]) ∧ CurOut r x b hi ∧ LowC r k x ∧ CurAt w' N gi gl r k ∧ w.grownBy w' (some gi) := by
  obtain ⟨A, cl, q1, q2⟩ := h.rows
  have := h.lt
  have hcl := can_len h.can
  refine (cursor1_any gi gl A gl cl r x j w h.idx q1 (by omega) q2 (by omega) (by omega) h.le h.can hx hlow).mono ?_
  rintro e w' ⟨b, hi, k, rfl, o1, o2, o3, o4, o5⟩
  exact ⟨b, hi, k, rfl, o1, o3, ⟨h.new1, h.new2, h.lt, o4, ⟨A, cl, blk_grown q1 o5 (fun e => by have := Option.some.inj e; omega), grown_row o5 q2 (by omega) (Nat.le_of_lt q1.lt)⟩, h.can, o2⟩, o5⟩
/-- What has been collected up to lo: the numbers below lo that K keeps. -/
structure Coll (K : Int → Prop) (ps : List Rg) (lo : Int) : Prop where
  ge : 0 ≤ lo
  le : lo ≤ 1114112
  len : (ps.length : Int) ≤ lo
  top : ∀ r ∈ ps, 0 ≤ r.1 ∧ r.1 ≤ r.2 ∧ r.2 < lo
  mem : ∀ x, 0 ≤ x → x < lo → (memR ps x ↔ K x)
theorem Coll.skip {K : Int → Prop} {ps : List Rg} {lo h : Int} (c : Coll K ps lo) (h1 : lo ≤ h) (h2 : h ≤ 1114111) (hk : ∀ x, lo ≤ x → x ≤ h → ¬ K x) : Coll K ps (h + 1) := by
  refine ⟨by have := c.ge; omega, by omega, by have := c.len; omega, fun r hr => by have := c.top r hr; omega, fun x hx hx' => ?_⟩
  by_cases hl : x < lo
  · exact c.mem x hx hl
  · refine ⟨fun ⟨r, hr, h⟩ => by have := c.top r hr; omega, fun h => absurd h (hk x (by omega) (by omega))⟩
theorem Coll.add {K : Int → Prop} {ps : List Rg} {lo h : Int} (c : Coll K ps lo) (h1 : lo ≤ h) (h2 : h ≤ 1114111) (hk : ∀ x, lo ≤ x → x ≤ h → K x) : Coll K (ps ++ [(lo, h)]) (h + 1) := by
  refine ⟨by have := c.ge; omega, by omega, by have := c.len; simp; omega, fun r hr => ?_, fun x hx hx' => ?_⟩
  · rcases List.mem_append.1 hr with hr | hr
    · have := c.top r hr; omega
    · have := c.ge
      simp at hr
      subst hr
      exact ⟨this, h1, by simp; omega⟩
  · rw [memR_append]
    by_cases hl : x < lo
    · rw [c.mem x hx hl]
      refine ⟨fun h => h.resolve_right ?_, Or.inl⟩
      rintro ⟨r, hr, h⟩
      simp at hr
      subst hr
      simp at h
      omega
    · refine ⟨fun _ => hk x (by omega) (by omega), fun _ => Or.inr ⟨(lo, h), by simp, by simp; omega⟩⟩
theorem Coll.has {K : Int → Prop} {ps : List Rg} {lo : Int} (c : Coll K ps lo) (h : 1114111 < lo) (x : Int) : hasP ps x ↔ codeP x ∧ K x :=
  ⟨fun ⟨h1, h2⟩ => ⟨h1, (c.mem x h1.1 (by have := h1.2; omega)).1 h2⟩, fun ⟨h1, h2⟩ => ⟨h1, (c.mem x h1.1 (by have := h1.2; omega)).2 h2⟩⟩
theorem Coll.nil (K : Int → Prop) : Coll K [] 0 := ⟨by omega, by omega, by simp, fun r hr => by simp at hr, fun x h1 h2 => by omega⟩
set_option maxRecDepth 100000 in
set_option maxHeartbeats 1000000 in
theorem combine_any (fk : Nat) (keep : Bool → Bool → Bool) (eg : ∀ args w, (callFunc fk args).run Tryd.prog w = .ok (.enter fk args) w) (hkeep : ∀ a b w, Calls Tryd.prog fk #[.bool a, .bool b] w fun e w' => e = .returned (.bool (keep a b)) ∧ w = w')
    (A B : Option Addr) (ca cb : Nat) (la lb : List Rg) (w : World) (hRA : Row w w.heap.size A (rgs la)) (hRB : Row w w.heap.size B (rgs lb)) (hma : la.length ≤ 1099511627776) (hmb : lb.length ≤ 1099511627776) :
    Calls Tryd.prog 42 #[.agg #[.slice A la.length ca], .agg #[.slice B lb.length cb], .func (.func fk) #[] #[]] w (RetSet w fun x => codeP x ∧ keep (decide (hasP la x)) (decide (hasP lb x)) = true) := by
  have HRA := Lib.hid hRA
  have HRB := Lib.hid hRB
  clear hRA hRB
  obtain ⟨i0, hi0, hz0, hz1, hz2⟩ := info_parts rg_info
  obtain ⟨w1, h1, HS⟩ : ∃ w1, w1 = ((w.alloc (.cells #[.slice A la.length ca] 24)).alloc (.cells #[.slice B lb.length cb] 24)).alloc (.cells #[.slice none 0 0] 24) ∧ Hid ((fun w' => (Below w.heap.size w w' ∧ Blk w' (w.heap.size + 2) 24 #[.slice none 0 0]) ∧ Blk w' w.heap.size 24 #[.slice A la.length ca] ∧ Blk w' (w.heap.size + 1) 24 #[.slice B lb.length cb]) w1) := ⟨_, rfl, ⟨(((Below.refl _ _).alloc (Nat.le_refl _) _).alloc (by simp) _).alloc (by simp; omega) _, by have := Blk.new ((w.alloc (.cells #[.slice A la.length ca] 24)).alloc (.cells #[.slice B lb.length cb] 24)) 24 #[.slice none 0 0]; simpa using this⟩, ((Blk.new w _ _).alloc _).alloc _, by have := (Blk.new (w.alloc (.cells #[.slice A la.length ca] 24)) 24 #[.slice B lb.length cb]).alloc (.cells #[.slice none 0 0] 24); simpa using this⟩
  go_enter Tryd.func42, Tryd.ntmps42
  go_wp2_with fail
  rw [← h1]
  clear h1
  obtain ⟨d, hd, HS⟩ : ∃ d, d = w1.drew ∧ Hid ((fun w' => (Below w.heap.size w w' ∧ Blk w' (w.heap.size + 2) 24 #[.slice none 0 0]) ∧ Blk w' w.heap.size 24 #[.slice A la.length ca] ∧ Blk w' (w.heap.size + 1) 24 #[.slice B lb.length cb]) d) := ⟨_, rfl, ⟨below_drewN HS.out.1.1 1, HS.out.1.2⟩, HS.out.2⟩
  refine wp_region_tree (fun w' => (Below w.heap.size w w' ∧ Blk w' (w.heap.size + 2) 24 #[.slice none 0 0]) ∧ Blk w' w.heap.size 24 #[.slice A la.length ca] ∧ Blk w' (w.heap.size + 1) 24 #[.slice B lb.length cb]) (.float 0 (.float 2 (.one 1 (.one 3 (.float 4 (.float 5 .done)))))) (by kernel_rfl) (by kernel_rfl) (fun _ _ d _ _ h => by cases d <;> exact h) (hd ▸ HS.out) ?_
  rw [← hd]
  clear hd
  repeat (first
    | (refine wpTr_fskip (by simp only [List.getElem?_toArray, List.getElem?_cons_zero, List.getElem?_cons_succ]; rfl) (by rfl) ?_
       simp only [Act.put, List.setIfInBounds_toArray, List.set_cons_zero, List.set_cons_succ])
    | (refine wpTr_float (v := ?_) (by simp only [List.getElem?_toArray, List.getElem?_cons_zero, List.getElem?_cons_succ]; rfl) (by rfl) (fun w' hS => ?_) ?_
       rotate_left
       (obtain ⟨-, hS1, hS2⟩ := hS; have e1 := hS1.cell 0; have e2 := hS2.cell 0; go_simp; first | done | rfl)
       simp only [Act.put, List.setIfInBounds_toArray, List.set_cons_zero, List.set_cons_succ]))
  refine wpTr_one ?_
  refine stepTr_K (by simp only [List.getElem?_toArray, List.getElem?_cons_zero, List.getElem?_cons_succ]; rfl) (by rfl) (fun K hK => ?_)
  go_simp
  refine (cursor_any A ca la d (HRA.out.below HS.out.1.1).lt hma).mono ?_
  rintro e v1 ⟨gi, gl, ra, rfl, HHA, HCA, hb1⟩
  obtain HCA := Lib.hid HCA
  have hdz := HS.out.1.1.size
  have hdx := HS.out.1.2.lt
  have HS1 : Hid ((fun w' => (Below w.heap.size w w' ∧ Blk w' (w.heap.size + 2) 24 #[.slice none 0 0]) ∧ Blk w' w.heap.size 24 #[.slice A la.length ca] ∧ Blk w' (w.heap.size + 1) 24 #[.slice B lb.length cb]) v1) := ⟨⟨HS.out.1.1.trans (hb1.mono hdz), HS.out.1.2.after hb1⟩, HS.out.2.1.after hb1, HS.out.2.2.after hb1⟩
  have HCA := Lib.hid (HCA.out.mono (show w.heap.size + 3 ≤ d.heap.size by omega))
  clear hb1
  refine hK.out _ _ HS1.out ?_
  clear hK K
  try simp only [Act.put, List.setIfInBounds_toArray, List.set_cons_zero, List.set_cons_succ]
  refine wpTr_one ?_
  refine stepTr_K (by simp only [List.getElem?_toArray, List.getElem?_cons_zero, List.getElem?_cons_succ]; rfl) (by rfl) (fun K hK => ?_)
  go_simp
  refine (cursor_any B cb lb v1 (HRB.out.below HS1.out.1.1).lt hmb).mono ?_
  rintro e v2 ⟨gi', gl', rb, rfl, HHB, HCB, hb2⟩
  have hdz1 := HS1.out.1.1.size
  have hdx1 := HS1.out.1.2.lt
  have HS2 : Hid ((fun w' => (Below w.heap.size w w' ∧ Blk w' (w.heap.size + 2) 24 #[.slice none 0 0]) ∧ Blk w' w.heap.size 24 #[.slice A la.length ca] ∧ Blk w' (w.heap.size + 1) 24 #[.slice B lb.length cb]) v2) := ⟨⟨HS1.out.1.1.trans (hb2.mono hdz1), HS1.out.1.2.after hb2⟩, HS1.out.2.1.after hb2, HS1.out.2.2.after hb2⟩
  have hgi : gi < gl' := Nat.lt_of_lt_of_le HCA.out.idx.lt HCB.new2
  have HCA2 := Lib.hid (HCA.out.below hb2 HCA.out.idx.lt)
  have HCB2 := Lib.hid (HCB.mono (show w.heap.size + 3 ≤ v1.heap.size by omega))
  clear hb2 HCB
  refine hK.out _ _ HS2.out ?_
  clear hK K
  try simp only [Act.put, List.setIfInBounds_toArray, List.set_cons_zero, List.set_cons_succ]
  repeat (first
    | (refine wpTr_fskip (by simp only [List.getElem?_toArray, List.getElem?_cons_zero, List.getElem?_cons_succ]; rfl) (by rfl) ?_
       simp only [Act.put, List.setIfInBounds_toArray, List.set_cons_zero, List.set_cons_succ])
    | (refine wpTr_float (v := ?_) (by simp only [List.getElem?_toArray, List.getElem?_cons_zero, List.getElem?_cons_succ]; rfl) (by rfl) (fun w' hS => ?_) ?_
       rotate_left
       (obtain ⟨-, hS1, hS2⟩ := hS; have e1 := hS1.cell 0; have e2 := hS2.cell 0; go_simp; first | done | rfl)
       simp only [Act.put, List.setIfInBounds_toArray, List.set_cons_zero, List.set_cons_succ]))
  refine wpTr_done ?_
  go_wp2
  have HHA1 := Lib.hid HHA
  have HHB1 := Lib.hid HHB
  clear HHA HHB HCA HS HS1
  go_loopw [10, 9] (fun i p wr => ∃ (lo : Int) (n c j j' : Nat) (A' : Option Addr) (ps : List Rg), i = .int .i64 lo ∧ p = .slice A' n c ∧ Hid (Coll (fun x => keep (decide (hasP la x)) (decide (hasP lb x)) = true) ps lo) ∧ Hid (LowC ra j lo) ∧ Hid (LowC rb j' lo) ∧ Hid (CurAt wr (w.heap.size + 3) gi gl ra j) ∧ Hid (CurAt wr (w.heap.size + 3) gi' gl' rb j') ∧ Hid (wr.ownsRow v2.heap.size 37 2 (.slice A' n c) n (rgs ps)) ∧ Hid (Below w.heap.size w wr) ∧ Hid (Blk wr (w.heap.size + 2) 24 #[.slice none 0 0]) ∧ v2.heap.size ≤ wr.heap.size) (fun i _ _ => (1114112 - intOf i).toNat)
  case atStart => exact ⟨0, 0, 0, 0, 0, none, [], rfl, rfl, Coll.nil _, fun i a h => by omega, fun i a h => by omega, HCA2, HCB2, own_nil _, HS2.out.1.1, HS2.out.1.2, Nat.le_refl _⟩
  case round =>
    obtain ⟨lo, n, c, j, j', A', ps, rfl, rfl, HCO, HLA, HLB, HCA, HCB, HO, HB, HX, hsz⟩ := hrel
    have hge := HCO.out.ge
    have hle := HCO.out.le
    by_cases h1 : lo ≤ 1114111
    · go_wp2_with (first
        | (go_at_call 76
           refine (cur_call gi gl _ ra lo j _ HCA.out ⟨hge, h1⟩ HLA.out).mono ?_
           rintro e u1 ⟨b1, e1, k1, rfl, o1, o2, o3, o4⟩
           have hng : gi < v2.heap.size := HCA2.out.idx.lt
           have O1 := Lib.hid o1
           have L1 := Lib.hid o2
           have C1 := Lib.hid o3
           have B1 := Lib.hid (HCB.out.other HCA.out.idx o4 (by have := HCB.out.lt; omega) (by omega))
           have OW1 := Lib.hid (own_keep HO.out fun q hq hq' => o4.block q hq' (fun e => by have := Option.some.inj e; omega))
           have BE1 : Hid (Below w.heap.size w u1) := HB.out.grown o4 HB.out.size (fun q hq => by have := Option.some.inj hq; have := HCA.out.new1; omega)
           have X1 := Lib.hid (blk_grown HX.out o4 (fun e => by have := Option.some.inj e; have := HCA.out.new1; omega))
           have hs1 := o4.size
           clear o1 o2 o3 o4 HCA HLA HO HB HX)
        | (go_at_call 76
           refine (cur_call gi' gl' _ rb lo j' _ B1.out ⟨hge, h1⟩ HLB.out).mono ?_
           rintro e u2 ⟨b2, e2, k2, rfl, o1, o2, o3, o4⟩
           have hng' : gi' < v2.heap.size := HCB2.out.idx.lt
           have O2 := Lib.hid o1
           have L2 := Lib.hid o2
           have C2 := Lib.hid o3
           have A2 := Lib.hid (C1.out.other B1.out.idx o4 (by have := HCB.out.lt; omega) (by have := C1.out.lt; have := HCB.out.lt; omega))
           have OW2 := Lib.hid (own_keep OW1.out fun q hq hq' => o4.block q hq' (fun e => by have := Option.some.inj e; omega))
           have BE2 : Hid (Below w.heap.size w u2) := BE1.out.grown o4 BE1.out.size (fun q hq => by have := Option.some.inj hq; have := B1.out.new1; omega)
           have X2 := Lib.hid (blk_grown X1.out o4 (fun e => by have := Option.some.inj e; have := B1.out.new1; omega))
           have hs2 := o4.size
           clear o1 o2 o3 o4 HLB C1 B1 OW1 BE1 X1))
      refine (hkeep _ _ _).mono ?_
      rintro e u3 ⟨rfl, hu⟩
      obtain rfl : u2 = u3 := hu
      have hm1 : lo ≤ min e1 e2 := by have := O1.out.2.1; have := O2.out.2.1; omega
      have hm2 : min e1 e2 ≤ 1114111 := by have := O1.out.2.2.1; omega
      have HKX : Hid (∀ x, lo ≤ x → x ≤ min e1 e2 → keep (decide (hasP la x)) (decide (hasP lb x)) = keep b1 b2) := by
        intro x hx hx'
        have e3 : decide (hasP la x) = b1 := by
          rw [← O1.out.1]
          exact decide_eq_decide.2 (((HHA1.out x).symm).trans (O1.out.2.2.2 x hx (by omega)))
        have e4 : decide (hasP lb x) = b2 := by
          rw [← O2.out.1]
          exact decide_eq_decide.2 (((HHB1.out x).symm).trans (O2.out.2.2.2 x hx (by omega)))
        rw [e3, e4]
      have HL1 : Hid (LowC ra k1 (min e1 e2 + 1)) := fun i a hi ha => by have := L1.out i a hi ha; omega
      have HL2 : Hid (LowC rb k2 (min e1 e2 + 1)) := fun i a hi ha => by have := L2.out i a hi ha; omega
      cases hkb : keep b1 b2 with
      | false =>
        have HCN := Lib.hid (HCO.out.skip hm1 hm2 (fun x hx hx' h => by rw [HKX.out x hx hx', hkb] at h; cases h))
        clear hkb
        go_wp2
        go_roundw
        case rel => exact ⟨_, n, c, k1, k2, A', ps, rfl, rfl, HCN, HL1, HL2, A2, C2, OW2, BE2, X2, by omega⟩
        case measure => simp [intOf]; omega
      | true =>
        have HCN := Lib.hid (HCO.out.add hm1 hm2 (fun x hx hx' => by rw [HKX.out x hx hx', hkb]))
        clear hkb
        have hnp : n ≤ 1114112 := by have := OW2.out.1; rw [rgs_len] at this; have := HCO.out.len; omega
        go_wp2_with (first
          | (at_builtin
             refine wpList_append_row _ rfl (.tmp 41) (.tmp 45) _ rfl v2.heap.size 37 i0 _ 2 16 Tryd.underlying22 hi0 hz0 hz1 hz2 rfl (by omega) (.slice A' n c) n (rgs ps) rfl (own_alloc OW2.out _) (u2.heap.size + 1) _ 1 1 [Value.int IntKind.i64 lo, Value.int IntKind.i64 (min e1 e2)] rfl rfl (row_new0 u2 _ _ _) (by simp [Value.oneCell']) (by simp only [maxLen]; omega) (by omega) (by simp; omega) ?_
             intro q4 w4 o4 g4 t4
             obtain ⟨A4, c4, rfl⟩ := own_slice o4 rfl
             have HO4 := Lib.hid o4
             have hbM : Below v2.heap.size u2 w4 := ((Below.refl _ _).alloc (by omega) _).grown g4 (by simp; omega) (fun g hg => own_base OW2.out g hg)
             have BE4 := Lib.hid (BE2.out.trans (hbM.mono HS2.out.1.1.size))
             have X4 := Lib.hid (X2.out.below hbM HS2.out.1.2.lt)
             have A4' := Lib.hid (A2.out.below hbM hng)
             have C4' := Lib.hid (C2.out.below hbM hng')
             have hs4 := g4.size
             clear o4 g4 t4 hbM))
        simp at hs4
        go_roundw
        case rel => exact ⟨_, n + 1, c4, k1, k2, A4, _, rfl, rfl, HCN, HL1, HL2, A4', C4', by rw [rgs_append]; exact HO4, BE4, X4, by omega⟩
        case measure => simp [intOf]; omega
    · obtain ⟨Ax, cx, e, -, -, hrow⟩ := own_row HO.out
      obtain ⟨rfl, rfl⟩ : A' = Ax ∧ c = cx := by injection e with e1 e2 e3; exact ⟨e1, e3⟩
      have hnl : n = ps.length := by have := HO.out.1; rw [rgs_len] at this; omega
      subst hnl
      have hpl : ps.length ≤ 1114112 := by have := HCO.out.len; omega
      have HRW := Lib.hid hrow
      have HH := Lib.hid (HCO.out.has (by omega))
      clear e hrow
      go_wp2_with (first
        | (go_at_call 23
           refine (make_any _ _ _ _ HRW.out (by omega)).mono ?_
           rintro e w5 ⟨A5, c5, r, rfl, hc, hh, hr5, hb5⟩
           have X5 := Lib.hid (HX.out.after hb5)
           have BE5 := Lib.hid (HB.out.trans (hb5.mono HB.out.size))
           have R5 := Lib.hid hr5
           have HC5 := Lib.hid hc
           have HH5 := Lib.hid hh
           have y0 := X5.out.cell 0
           have z0 := X5.out.free 0
           simp at y0
           clear hr5 hb5 hc hh))
      refine bodyPost_ret (v := .agg #[.slice A5 r.length c5]) ?_ rfl ?_
      · have q0 := (X5.out.set_ 0 (.slice A5 r.length c5)).cell 0
        simp at q0
        simp [results, Tryd.results42, go_sem, q0]
      · refine ⟨A5, c5, r, rfl, HC5.out, fun x => (HH5.out x).trans (HH.out x), ?_, BE5.out.setCell (by show w.heap.size ≤ w.heap.size + 1 + 1; omega) _⟩
        have := row_one X5.out (grown_set (grown_refl w5 (some (w.heap.size + 2))) 0 (.slice A5 r.length c5)) R5.out (Nat.le_refl _)
        simpa using this
end Go.Proofs.YtogfhaeohcpkjaaDoor
