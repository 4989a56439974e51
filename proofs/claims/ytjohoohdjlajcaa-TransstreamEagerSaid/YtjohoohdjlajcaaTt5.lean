/-
  (*transduce.trie).step.
-/
import Derived.Test.YtjohoohdjlajcaaTt4
import Derived.Test.YtjohoohdjlajcaaTd2
import Derived.Deep.CutBlock
import Derived.WalkMore
namespace Go.Proofs.Ytjohoohdjlajcaa
open Go.RowKit Go.UtYtjohoohdjlajcaa
/-- the call returns a step; the trie may have more nodes -/
def RetStep (w : World) (B g : Nat) (X : Nat → Prop) (A : Option Addr) (c : Nat) (rules : List TR) (text : List Int) (p n : Nat) (e : Ending) (w' : World) : Prop :=
  ∃ (i m : Int) (nodes' : List (List Int)), e = .returned (.tuple #[.int .i64 i, .int .i64 m]) ∧ IsStep rules text p i m ∧ TrieAt 79 31 3 w' B g X A c rules nodes' ∧ nodes'.length ≤ n + (text.length - p) ∧ Below B w w' ∧ ∀ x, X x → w'.heap[x]? = w.heap[x]?
theorem best_cases {rules : List TR} {text : List Int} {p : Nat} {P : Nat → TR → Prop} {b : Int} (h : Best rules text p P b) : b = -1 ∨ ∃ (k : Nat) (r : TR), b = (k : Int) ∧ rules[k]? = some r := by
  rcases h with ⟨h1, _⟩ | ⟨k, r, h1, h2, _⟩
  · exact .inl h1
  · exact .inr ⟨k, r, h1, h2⟩
set_option maxRecDepth 100000 in
set_option maxHeartbeats 1000000 in
theorem tstep_any (A At : Option Addr) (c ct B g : Nat) (X : Nat → Prop) (rules : List TR) (text : List Int) (nodes : List (List Int)) (p : Nat) (w : World)
    (hR : RulesAt w B A rules) (hT : TrieAt 79 31 3 w B g X A c rules nodes) (hX : ∀ x, X x → x < w.heap.size) (hTx : Row w B At (ints text)) (hp : p ≤ text.length) (hl : text.length ≤ 100000) (hn : nodes.length + text.length ≤ 1000000000) (hrl : rules.length ≤ 1000000) :
    Calls Try.prog 53 #[.pointer (some ⟨g, 0, none⟩), .slice At text.length ct, .int .i64 (p : Int)] w (RetStep w B g X A c rules text p nodes.length) := by
  have HRU := Lib.hid hR
  have HT := Lib.hid hT
  have HTX := Lib.hid hTx
  have hbase := hT.base
  obtain ⟨nt, hnt⟩ : ∃ n, text.length = n := ⟨_, rfl⟩
  obtain ⟨n0, hn0⟩ : ∃ n, nodes.length = n := ⟨_, rfl⟩
  obtain ⟨rn, hrn⟩ : ∃ n, rules.length = n := ⟨_, rfl⟩
  rw [hnt] at hp hl hn
  rw [hn0] at hn
  rw [hrn] at hrl
  rw [hnt, hn0]
  have HNT := Lib.hid hnt
  have HN0 := Lib.hid hn0
  have HRN := Lib.hid hrn
  have HR0 : Hid (nodes[0]? = some (seg text p 0)) := by
    obtain ⟨mb, Al, cl, m, vs, h1, h2, h3, h4, h5, h6, h7⟩ := hT
    exact h6
  clear hnt hn0 hrn hR hT hTx
  go_enter Try.func53, Try.ntmps53
  go_wp2
  go_step3
  go_wp2
  go_step3
  go_wp2
  go_loopw [8, 9, 10] (fun bst nd dp wr => ∃ (d node nn : Nat) (b : Int) (nodes' : List (List Int)), dp = .int .i64 (d : Int) ∧ nd = .int .i64 (node : Int) ∧ bst = .int .i64 b ∧ p + d ≤ nt ∧ nn ≤ n0 + d ∧ Hid (nodes'.length = nn) ∧ Hid (nodes'[node]? = some (seg text p d)) ∧ Hid (Best rules text p (fun _ r => r.ma.length < d) b) ∧ Hid (TrieAt 79 31 3 wr B g X A c rules nodes') ∧ Hid (Below B w wr) ∧ Hid (∀ x, X x → wr.heap[x]? = w.heap[x]?)) (fun _ _ dp _ => nt + 1 - (intOf dp).toNat)
  case atStart => exact ⟨0, 0, n0, -1, nodes, rfl, rfl, rfl, hp, by omega, HN0, HR0, best_start _ _ _, HT, Below.refl _ _, fun _ _ => rfl⟩
  case round =>
    obtain ⟨d, node, nn, b, nodes', rfl, rfl, rfl, hd, hnn, HNN, HND, HBE, HTR, HB, HXF⟩ := hrel
    obtain ⟨wo, hwo⟩ : ∃ x, x = wr := ⟨_, rfl⟩
    subst hwo
    have hbs := HB.out.size
    obtain ⟨mb, Al, cl, m, vs, t1, t2, t3, t4, t5, t6, t7, t8, t9, t10⟩ := HTR.out
    have hnode : node < nodes'.length := (List.getElem?_eq_some_iff.1 HND.out).1
    obtain ⟨e0, e1, e2⟩ := t1.cells3
    have hlt := t1.lt
    obtain ⟨Ai, ci, hv, hlen, hcap, HI⟩ := t4.2 node _ HND.out
    obtain ⟨al, hal⟩ : ∃ al, alv rules (seg text p d) = al := ⟨_, rfl⟩
    have HAL := Lib.hid hal
    have hall := alv_len rules (seg text p d)
    rw [hal, HRN.out] at hall
    rw [hal] at hv hlen HI
    clear hal
    obtain ⟨na, hna⟩ : ∃ n, al.length = n := ⟨_, rfl⟩
    have HNA := Lib.hid hna
    rw [hna] at hv hlen hall
    clear hna
    unfold maxLen at hcap
    have HIR := Lib.hid HI.row
    rw [HNN.out] at e2 t3 hnode
    rw [HRN.out] at e0
    obtain ⟨ba, oa, v, rfl, hba, hv', cc⟩ := (ow_row t3).1.at_ (k := node) (by rw [t4.1, HNN.out]; exact hnode)
    obtain rfl : v = .slice Ai na ci := by
      rw [hv] at hv'
      injection hv' with hv'
      exact hv'.symm
    clear t1 t2 t3 t4 t5 t6 t7 t8 t9 t10 hv hv' HI e1
    by_cases hz : na = 0
    · subst hz
      have HBA := Lib.hid (best_dead HBE.out (by rw [HAL.out]; exact List.eq_nil_of_length_eq_zero HNA.out))
      obtain ⟨m0, hst, hst2⟩ := best_step HBA.out
      have HST := Lib.hid hst
      clear hst
      rcases hst2 with ⟨hb1, rfl⟩ | ⟨kb, rb, hb1, hrb, rfl⟩
      · subst hb1
        go_wp2
        try rw [Exit.noGoto_ret]
        go_ret2
        exact ⟨-1, 1, nodes', rfl, HST.out, HTR.out, by have := HNN.out; rw [HNT.out]; omega, HB.out, HXF.out⟩
      · have hkb : kb < rules.length := (List.getElem?_eq_some_iff.1 hrb).1
        obtain ⟨br, or, v0, v1, v2, v3, r, rfl, hbr, hxr, HRA, c0', c1', c2', c3'⟩ := (HRU.out.below HB.out).at_ (k := kb) hkb
        obtain rfl : r = rb := by
          have := hxr.out
          rw [hrb] at this
          injection this with this
          exact this.symm
        obtain ⟨Ab, cb, Am, cm, Aa, ca, Ar, cr, hvs, hmore⟩ := HRA.out
        simp only [List.cons.injEq, and_true] at hvs
        obtain ⟨rfl, rfl, rfl, rfl⟩ := hvs
        clear hmore HRA hrb
        subst hb1
        rw [HRN.out] at hkb
        go_wp2
        go_quiet (fail)
        go_wp2
        try rw [Exit.noGoto_ret]
        go_ret2
        exact ⟨kb, r.mat.length, nodes', rfl, HST.out, HTR.out, by have := HNN.out; rw [HNT.out]; omega, below_drewN HB.out _, HXF.out⟩
    · have hz1 : decide (0 < na) = true := decide_eq_true (by omega)
      have hz' : 0 < na := by omega
      go_upto_block 2 with fail
      go_cut [8, 12, 13, 14] from 34 to 69 (fun bst _ _ _ wr => ∃ b' : Int, bst = .int .i64 b' ∧ Hid (Best rules text p (fun _ r => r.ma.length < d + 1) b') ∧ Hid (Below wo.heap.size wo wr))
      case first =>
        go_wp2_with fail
        go_loopw [8, 34] (fun bst i wr => ∃ (k : Nat) (b' : Int), k ≤ na ∧ i = .int .i64 (k : Int) ∧ bst = .int .i64 b' ∧ Hid (Best rules text p (Pk d (al.take k)) b') ∧ Hid (Below wo.heap.size wo wr)) (fun _ i _ => na - (intOf i).toNat)
        case atStart => exact ⟨0, b, by omega, rfl, rfl, best_lt HBE.out, Below.refl _ _⟩
        case round =>
          obtain ⟨k, b', hk, rfl, rfl, HBK, HBX⟩ := hrel
          have hbxs := HBX.out.size
          have HBB : Hid (Below B w wr) := HB.out.trans (HBX.out.mono (by omega))
          by_cases hkn : k < na
          · obtain ⟨bi, oi, x, rfl, hbi, hx, cx⟩ := (HIR.out.below HBX.out).at_int (k := k) (by rw [natI_len, HNA.out]; exact hkn)
            obtain ⟨i, hi, rfl⟩ := natI_get hx.out
            have HII := Lib.hid hi
            clear hx hi
            have HIA : Hid ((alv rules (seg text p d))[k]? = some i) := by
              show _ = _
              rw [HAL.out]
              exact HII.out
            have HBK' : Hid (Best rules text p (Pk d ((alv rules (seg text p d)).take k)) b') := by
              show Best _ _ _ _ _
              rw [HAL.out]
              exact HBK.out
            obtain ⟨r0, hr0, _⟩ : ∃ r, rules[i]? = some r ∧ fitR (seg text p d) r := alv_mem.1 (List.mem_of_getElem? HIA.out)
            have hir : i < rn := by
              have := (List.getElem?_eq_some_iff.1 hr0).1
              rw [HRN.out] at this
              exact this
            clear hr0
            have hoB : B ≤ wo.heap.size := by omega
            have g0 := (HBX.out.cell (p := ⟨g, 0, none⟩) hlt).trans e0
            by_cases hbr : 0 ≤ b' ∧ b' ≤ (i : Int)
            · obtain ⟨hb1, hb2⟩ := hbr
              have HE : Hid (Best rules text p (fun _ r => r.ma.length < d + 1) b') := best_break HBK'.out HIA.out hb1 hb2
              go_wp2
              go_meet
              exact ⟨b', rfl, HE, HBX⟩
            · obtain ⟨br, or, v0, v1, v2, v3, r, rfl, hbr', hxr, HRA, c0', c1', c2', c3'⟩ := (HRU.out.below HBB.out).at_ (k := i) (by rw [HRN.out]; exact hir)
              have HCN : Hid (b' < 0 ∨ (i : Int) < b') := by
                show _ ∨ _
                omega
              have HPRE : Hid (∀ (u : World) (v' : Bool), Below B wr u → (v' = true ↔ prec r text p) → Calls Try.prog 59 #[.agg #[v0, v1, v2, v3], .slice At nt ct, .int .i64 (p : Int)] u fun e w' => e = .returned (.bool v') ∧ Below u.heap.size u w') := by
                intro u v' hu hv
                have := preceded_any r [v0, v1, v2, v3] At ct text p u ((HRA.out.below hu).more (by have := hu.size; omega)) (((HTX.out.below HBB.out).below hu).more (by have := hu.size; omega)) (by rw [HNT.out]; exact hp) (by rw [HNT.out]; omega) v' hv
                rw [HNT.out] at this
                exact this
              have HRW : Hid (RuleAt wr wr.heap.size [v0, v1, v2, v3] r) := HRA.out.more (by omega)
              have hor := HCN.out
              clear hbr
              rcases hor with hcn | hcn
              all_goals
                cases hs : r.ma[d]? with
                | some s =>
                  have HSET := Lib.hid (set_some r [v0, v1, v2, v3] d s wr HRW.out hs)
                  have HM := Lib.hid (best_more HBK'.out HIA.out hxr.out (fun h => by have := (List.getElem?_eq_some_iff.1 hs).1; omega))
                  rw [HAL.out] at HM
                  clear hs
                  go_wp2_with (first
                    | (go_at_call 58
                       refine HSET.out.mono ?_
                       rintro e w2 ⟨As, cs, rfl, _, _, _, hb2⟩
                       have HB2 : Hid (Below wo.heap.size wo w2) := HBX.out.trans (hb2.mono hbxs)
                       clear hb2))
                  go_roundw
                  case rel => exact ⟨k + 1, b', by omega, by go_num, rfl, HM, HB2.out.alloc HB2.out.size _⟩
                  case measure => simp [intOf]; omega
                | none =>
                  have HSET := Lib.hid (set_none r [v0, v1, v2, v3] d wr HRW.out hs (by omega))
                  have hml : r.ma.length = d := by
                    have h1 := List.getElem?_eq_none_iff.1 hs
                    obtain ⟨r', h2, h3⟩ := alv_mem.1 (List.mem_of_getElem? HIA.out)
                    rw [hxr.out] at h2
                    cases h2
                    have h4 := h3.1
                    rw [seg_len (by rw [HNT.out]; exact hd)] at h4
                    omega
                  have HML := Lib.hid hml
                  clear hs hml
                  by_cases hpr : prec r text p
                  · have HH : Hid (Best rules text p (fun _ r => r.ma.length < d + 1) (i : Int)) := best_hit HBK'.out HIA.out hxr.out HML.out (by rw [HNT.out]; exact hd) hpr HCN.out
                    go_wp2_with (first
                      | (go_at_call 59
                         refine (HPRE.out _ true HBP.out ⟨fun _ => hpr, fun _ => rfl⟩).mono ?_
                         rintro e w3 ⟨rfl, hb3⟩
                         have HB3 : Hid (Below wo.heap.size wo w3) := (HB2.out.alloc HB2.out.size _).trans (hb3.mono (by have := HB2.out.size; simp; omega))
                         clear hb3)
                      | (go_at_call 58
                         refine HSET.out.mono ?_
                         rintro e w2 ⟨rfl, hb2⟩
                         have HB2 : Hid (Below wo.heap.size wo w2) := HBX.out.trans (hb2.mono hbxs)
                         have HBP : Hid (Below B wr (w2.alloc (.cells #[.slice none 0 0] 45))) := (hb2.mono (by omega)).alloc (by have := hb2.size; omega) _
                         have s2 := hb2.size
                         have hbr2 : br < w2.heap.size := by omega
                         have hlt2 : g < w2.heap.size := by omega
                         have g0' := (hb2.cell (p := ⟨g, 0, none⟩) (by simp; omega)).trans g0
                         have d0 := (hb2.cell (p := ⟨br, or + i * 4, none⟩) (by simp; omega)).trans c0'
                         have d1 := (hb2.cell (p := ⟨br, or + i * 4 + 1, none⟩) (by simp; omega)).trans c1'
                         have d2 := (hb2.cell (p := ⟨br, or + i * 4 + 2, none⟩) (by simp; omega)).trans c2'
                         have d3 := (hb2.cell (p := ⟨br, or + i * 4 + 3, none⟩) (by simp; omega)).trans c3'
                         clear hb2))
                    go_meet
                    exact ⟨i, rfl, HH, HB3⟩
                  · have HM := Lib.hid (best_more HBK'.out HIA.out hxr.out (fun h => hpr h.2.2))
                    rw [HAL.out] at HM
                    go_wp2_with (first
                      | (go_at_call 59
                         refine (HPRE.out _ false HBP.out ⟨fun h => (by cases h), fun h => absurd h hpr⟩).mono ?_
                         rintro e w3 ⟨rfl, hb3⟩
                         have HB3 : Hid (Below wo.heap.size wo w3) := (HB2.out.alloc HB2.out.size _).trans (hb3.mono (by have := HB2.out.size; simp; omega))
                         clear hb3)
                      | (go_at_call 58
                         refine HSET.out.mono ?_
                         rintro e w2 ⟨rfl, hb2⟩
                         have HB2 : Hid (Below wo.heap.size wo w2) := HBX.out.trans (hb2.mono hbxs)
                         have HBP : Hid (Below B wr (w2.alloc (.cells #[.slice none 0 0] 45))) := (hb2.mono (by omega)).alloc (by have := hb2.size; omega) _
                         have s2 := hb2.size
                         have hbr2 : br < w2.heap.size := by omega
                         have hlt2 : g < w2.heap.size := by omega
                         have g0' := (hb2.cell (p := ⟨g, 0, none⟩) (by simp; omega)).trans g0
                         have d0 := (hb2.cell (p := ⟨br, or + i * 4, none⟩) (by simp; omega)).trans c0'
                         have d1 := (hb2.cell (p := ⟨br, or + i * 4 + 1, none⟩) (by simp; omega)).trans c1'
                         have d2 := (hb2.cell (p := ⟨br, or + i * 4 + 2, none⟩) (by simp; omega)).trans c2'
                         have d3 := (hb2.cell (p := ⟨br, or + i * 4 + 3, none⟩) (by simp; omega)).trans c3'
                         clear hb2))
                    go_roundw
                    case rel => exact ⟨k + 1, b', by omega, by go_num, rfl, HM, HB3⟩
                    case measure => simp [intOf]; omega
          · obtain rfl : k = na := by omega
            have HE : Hid (Best rules text p (fun _ r => r.ma.length < d + 1) b') := best_end (k := k) (by rw [HAL.out]; exact HBK.out) (by rw [HAL.out, HNA.out]; exact Nat.le_refl _)
            go_wp2
            go_meet
            exact ⟨b', rfl, HE, HBX⟩
      case rest =>
        obtain ⟨b', rfl, HBE', HBC⟩ := hcut
        have hcs := HBC.out.size
        have HBW : Hid (Below B w wc) := HB.out.trans (HBC.out.mono (by omega))
        have HTC : Hid (TrieAt 79 31 3 wc B g X A c rules nodes') := HTR.out.below HBC.out
        have HXC : Hid (∀ x, X x → wc.heap[x]? = w.heap[x]?) := fun x hx => (HBC.out.block x (by have := hX x hx; omega)).trans (HXF.out x hx)
        have gc0 := (HBC.out.cell (p := ⟨g, 0, none⟩) hlt).trans e0
        have hltc : g < wc.heap.size := by omega
        clear e0 e2 cc hlt
        by_cases hend : p + d < nt
        · obtain ⟨bt, ot, x, rfl, hbt, hxt, cct⟩ := (HTX.out.below HBW.out).at_int (k := p + d) (by rw [HNT.out]; exact hend)
          have HCH := child_any A c B g X rules nodes' node (seg text p d) x wc (HRU.out.below HBW.out) HTC.out (fun x hx => by have := hX x hx; omega) HND.out (by rw [HNN.out]; omega) (by rw [seg_len (by rw [HNT.out]; exact hd)]; omega) (by rw [HRN.out]; exact hrl)
          rw [seg_len (by rw [HNT.out]; exact hd), ← seg_snoc hxt.out] at HCH
          replace HCH := Lib.hid HCH
          have k1 : IntKind.i64.wrap ((p : Int) + (d : Int)) = (p : Int) + (d : Int) := IntWalk.i64_in _ (by omega)
          have k2 : (0 : Int) ≤ (p : Int) + (d : Int) := by omega
          have k3 : (p : Int) + (d : Int) < (nt : Int) := by omega
          have k4 : ((p : Int) + (d : Int)).toNat = p + d := by omega
          go_wp2_with (first
            | (go_at_call 60
               refine HCH.out.mono ?_
               rintro e w3 ⟨k', nodes3, rfl, hk3, ht3, hl3, hb3, hx3⟩
               have HK3 := Lib.hid hk3
               have HT3 := Lib.hid ht3
               rw [HNN.out] at hl3
               have HB3 : Hid (Below B w w3) := HBW.out.trans hb3
               have HX3 : Hid (∀ x, X x → w3.heap[x]? = w.heap[x]?) := fun x hx => (hx3 x hx).trans (HXC.out x hx)
               clear hk3 ht3 hb3 hx3))
          go_roundw
          case rel => exact ⟨d + 1, k', nodes3.length, b', nodes3, by go_num, rfl, rfl, by omega, by omega, rfl, HK3, HBE', HT3, HB3, HX3⟩
          case measure => simp [intOf]; omega
        · have hend' : ¬ ((p : Int) + (d : Int) < (nt : Int)) := by omega
          have HBA := Lib.hid (best_all HBE'.out (by rw [HNT.out]; omega))
          obtain ⟨m0, hst, hst2⟩ := best_step HBA.out
          have HST := Lib.hid hst
          clear hst
          rcases hst2 with ⟨hb1, rfl⟩ | ⟨kb, rb, hb1, hrb, rfl⟩
          · subst hb1
            go_wp2
            try rw [Exit.noGoto_ret]
            go_ret2
            exact ⟨-1, 1, nodes', rfl, HST.out, HTC.out, by have := HNN.out; rw [HNT.out]; omega, HBW.out, HXC.out⟩
          · have hkb : kb < rules.length := (List.getElem?_eq_some_iff.1 hrb).1
            obtain ⟨br, or, v0, v1, v2, v3, r, rfl, hbr, hxr, HRA, c0', c1', c2', c3'⟩ := (HRU.out.below HBW.out).at_ (k := kb) hkb
            obtain rfl : r = rb := by
              have := hxr.out
              rw [hrb] at this
              injection this with this
              exact this.symm
            obtain ⟨Ab, cb, Am, cm, Aa, ca, Ar, cr, hvs, hmore⟩ := HRA.out
            simp only [List.cons.injEq, and_true] at hvs
            obtain ⟨rfl, rfl, rfl, rfl⟩ := hvs
            clear hmore HRA hrb
            subst hb1
            rw [HRN.out] at hkb
            go_wp2
            go_quiet (fail)
            go_wp2
            try rw [Exit.noGoto_ret]
            go_ret2
            exact ⟨kb, r.mat.length, nodes', rfl, HST.out, HTC.out, by have := HNN.out; rw [HNT.out]; omega, below_drewN HBW.out _, HXC.out⟩
end Go.Proofs.Ytjohoohdjlajcaa
