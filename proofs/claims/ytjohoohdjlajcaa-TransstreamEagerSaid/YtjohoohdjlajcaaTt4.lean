/-
  (*transduce.trie).child.
-/
import Derived.Test.YtjohoohdjlajcaaTt0
import Derived.Test.YtjohoohdjlajcaaTt2
import Derived.Test.YtjohoohdjlajcaaMk2
namespace Go.UtYtjohoohdjlajcaa
open Go.RowKit
theorem goes_take {rules : List TR} {d : Nat} {c : Int} {al : List Nat} {k i : Nat} (hk : al[k]? = some i) : (al.take (k + 1)).filter (goesB rules d c) = (al.take k).filter (goesB rules d c) ++ (if goesB rules d c i = true then [i] else []) := by
  obtain ⟨hl, e⟩ := List.getElem?_eq_some_iff.1 hk
  rw [List.take_succ_eq_append_getElem hl, e, List.filter_append]
  congr 1
  by_cases h : goesB rules d c i = true <;> simp [h]
theorem filt_le {al : List Nat} {f : Nat → Bool} (k : Nat) : ((al.take k).filter f).length ≤ al.length := Nat.le_trans (List.length_filter_le _ _) (by rw [List.length_take]; omega)
theorem alv_len (rules : List TR) (q : List Int) : (alv rules q).length ≤ rules.length := by
  unfold alv
  refine Nat.le_trans (List.length_filter_le _ _) ?_
  simp
theorem goes_some {rules : List TR} {d i : Nat} {c : Int} {r : TR} {s : List Rg} (h1 : rules[i]? = some r) (h2 : r.ma[d]? = some s) : goesB rules d c i = decide (hasP s c) := by
  unfold goesB setN
  simp [h1, h2]
theorem goes_none {rules : List TR} {d i : Nat} {c : Int} {r : TR} (h1 : rules[i]? = some r) (h2 : r.ma[d]? = none) : goesB rules d c i = false := by
  unfold goesB setN
  simp [h1, h2]
end Go.UtYtjohoohdjlajcaa
namespace Go.Proofs.Ytjohoohdjlajcaa
open Go.RowKit Go.UtYtjohoohdjlajcaa
/-- the call returns the number of a node; the trie has it -/
def RetNode (w : World) (B g : Nat) (X : Nat → Prop) (A : Option Addr) (c : Nat) (rules : List TR) (nodes : List (List Int)) (p : List Int) (e : Ending) (w' : World) : Prop :=
  ∃ (k : Nat) (nodes' : List (List Int)), e = .returned (.int .i64 (k : Int)) ∧ nodes'[k]? = some p ∧ TrieAt 79 31 3 w' B g X A c rules nodes' ∧ nodes'.length ≤ nodes.length + 1 ∧ Below B w w' ∧ ∀ x, X x → w'.heap[x]? = w.heap[x]?
theorem il_info : (Try.prog.info? 31).map (fun i => (i.zero, i.size, i.bytes)) = some (some (.slice none 0 0), 1, 24) := by kernel_rfl
theorem in_info : (Try.prog.info? 3).map (fun i => (i.zero, i.size, i.bytes)) = some (some (.int .i64 0), 1, 8) := by kernel_rfl
set_option maxRecDepth 100000 in
set_option maxHeartbeats 1000000 in
theorem child_any (A : Option Addr) (c B g : Nat) (X : Nat → Prop) (rules : List TR) (nodes : List (List Int)) (node : Nat) (q : List Int) (code : Int) (w : World)
    (hR : RulesAt w B A rules) (hT : TrieAt 79 31 3 w B g X A c rules nodes) (hX : ∀ x, X x → x < w.heap.size) (hq : nodes[node]? = some q) (hn : nodes.length ≤ 1000000000) (hd : q.length ≤ 100000) (hrl : rules.length ≤ 1000000) :
    Calls Try.prog 60 #[.pointer (some ⟨g, 0, none⟩), .int .i64 (node : Int), .int .i64 (q.length : Int), .int .i64 code] w (RetNode w B g X A c rules nodes (q ++ [code])) := by
  have HT := Lib.hid hT
  obtain ⟨mb, Al, cl, m, vs, h1, h2, h3, h4, h5, h6, h7, h8, h9, h10⟩ := hT
  obtain ⟨e0, e1, e2⟩ := h1.cells3
  have hlt := h1.lt
  have HQ := Lib.hid hq
  obtain ⟨d, hd0⟩ : ∃ d, q.length = d := ⟨_, rfl⟩
  have HD := Lib.hid hd0
  rw [hd0] at hd ⊢
  clear hd0
  have hnode : node < nodes.length := (List.getElem?_eq_some_iff.1 hq).1
  obtain ⟨nn, hnn⟩ : ∃ n, nodes.length = n := ⟨_, rfl⟩
  have hlook := look_run (w := w) link_k2 Try.underlying77 (map_zero w) h2 node code
  unfold key2 at hlook
  obtain ⟨rn, hrn⟩ : ∃ n, rules.length = n := ⟨_, rfl⟩
  rw [hnn] at hn hnode e2
  rw [hrn] at hrl e0
  have HNN := Lib.hid hnn
  have HRN := Lib.hid hrn
  clear hnn hrn hq
  cases hl : lkp m node code with
  | some v =>
    rw [hl] at hlook
    obtain ⟨b, hb1, hb2⟩ := h5.found HQ.out hl
    subst hb1
    have HF := Lib.hid hb2
    clear h1 h2 h3 h4 h5 h6 h7 h8 h9 h10 hb2 hl
    simp only [Option.getD_some, Option.isSome_some] at hlook
    go_enter Try.func60, Try.ntmps60
    go_wp2
    go_ret
    exact ⟨b, nodes, rfl, HF.out, HT.out, by omega, Below.refl _ _, fun _ _ => rfl⟩
  | none =>
    rw [hl] at hlook
    simp only [Option.getD_none, Option.isSome_none] at hlook
    obtain ⟨Ai, ci, hv, hlen, hcap, HI⟩ := h4.2 node q HQ.out
    obtain ⟨al, hal⟩ : ∃ al, alv rules q = al := ⟨_, rfl⟩
    have HAL := Lib.hid hal
    rw [hal] at hv hlen HI
    have hall := alv_len rules q
    rw [hal, HRN.out] at hall
    clear hal
    obtain ⟨na, hna⟩ : ∃ n, al.length = n := ⟨_, rfl⟩
    have HNA := Lib.hid hna
    rw [hna] at hv hlen hall
    clear hna
    unfold maxLen at hcap
    have HIR := Lib.hid HI.row
    have H3 := Lib.hid h3
    have H4 := Lib.hid h4
    have H5 := Lib.hid h5
    have HRU := Lib.hid hR
    obtain ⟨b, o, v, rfl, hb, hv', cc⟩ := (ow_row (by rw [HNN.out] at h3; exact h3)).1.at_ (k := node) (by rw [h4.1, HNN.out]; exact hnode)
    obtain rfl : v = .slice Ai na ci := by
      rw [hv] at hv'
      injection hv' with hv'
      exact hv'.symm
    have H10 := Lib.hid h10
    have HBG := Lib.hid h7
    have H6 := Lib.hid h6
    have HM := Lib.hid h2
    have HG := Lib.hid h1
    have HL := Lib.hid hl
    have HBS := Lib.hid HT.out.base
    clear h1 h2 h3 h4 h5 h6 h7 h10 hl HI hv hv' hR
    obtain ⟨i0, hi0, hz0, hz1, hz2⟩ := info_parts in_info
    obtain ⟨i1, hi1, hy0, hy1, hy2⟩ := info_parts il_info
    go_enter Try.func60, Try.ntmps60
    go_wp2
    go_loopw [11, 38] (fun p i wr => ∃ (k n0 c0 : Nat) (A0 : Option Addr), k ≤ na ∧ i = .int .i64 (k : Int) ∧ p = .slice A0 n0 c0 ∧ n0 ≤ na ∧ Hid (n0 = ((al.take k).filter (goesB rules d code)).length) ∧ Hid (wr.ownsRow w.heap.size 3 1 (.slice A0 n0 c0) n0 (ints (natI ((al.take k).filter (goesB rules d code))))) ∧ Hid (Below w.heap.size w wr)) (fun _ i _ => na - (intOf i).toNat)
    case atStart => exact ⟨0, 0, 0, none, by omega, rfl, rfl, by omega, rfl, own_nil _, Below.refl _ _⟩
    case round =>
      obtain ⟨k, n0, c0, A0, hk, rfl, rfl, hn0, HN0, HO, HB⟩ := hrel
      have hbs := HB.out.size
      by_cases hkn : k < na
      · obtain ⟨bi, oi, x, rfl, hbi, hx, cx⟩ := (HIR.out.below HB.out).at_int (k := k) (by rw [natI_len, HNA.out]; exact hkn)
        obtain ⟨i, hi, rfl⟩ := natI_get hx.out
        have HI := Lib.hid hi
        clear hx hi
        obtain ⟨r0, hr0, _⟩ : ∃ r, rules[i]? = some r ∧ fitR q r := alv_mem.1 (by rw [HAL.out]; exact List.mem_of_getElem? HI.out)
        have hir : i < rn := by
          have := (List.getElem?_eq_some_iff.1 hr0).1
          rw [HRN.out] at this
          exact this
        obtain ⟨br, or, v0, v1, v2, v3, r, rfl, hbr, hxr, HRA, c0', c1', c2', c3'⟩ := (HRU.out.below (HB.out.mono HBS.out.2.2)).at_ (k := i) (by rw [HRN.out]; exact hir)
        have g0 := (HB.out.cell (p := ⟨g, 0, none⟩) hlt).trans e0
        clear hr0
        have HTK := Lib.hid (goes_take (rules := rules) (d := d) (c := code) HI.out)
        have HFL : Hid (((al.take k).filter (goesB rules d code)).length ≤ k) := Nat.le_trans (List.length_filter_le _ _) (by rw [List.length_take]; omega)
        have HRW : Hid (RuleAt wr wr.heap.size [v0, v1, v2, v3] r) := HRA.out.more (by have := HBS.out.2.2; omega)
        cases hs : r.ma[d]? with
        | none =>
          have HSET := Lib.hid (set_none r [v0, v1, v2, v3] d wr HRW.out hs (by omega))
          have HGO := Lib.hid (goes_none (c := code) hxr.out hs)
          have HTK' : Hid ((al.take (k + 1)).filter (goesB rules d code) = (al.take k).filter (goesB rules d code)) := by
            have := HTK.out
            rw [HGO.out] at this
            show _ = _
            simpa using this
          clear hs HTK
          go_wp2_with (first | (go_at_call 58; refine HSET.out.mono ?_; rintro e w2 ⟨rfl, hb2⟩; have HB2 : Hid (Below w.heap.size w w2) := HB.out.trans (hb2.mono hbs); have HO2 := Lib.hid (ow_below HO.out hb2); clear hb2))
          go_roundw
          case rel => exact ⟨k + 1, n0, c0, A0, by omega, by go_num, rfl, hn0, by rw [HTK'.out]; exact HN0, by rw [HTK'.out]; exact ow_alloc HO2.out _, HB2.out.alloc HB2.out.size _⟩
          case measure => simp [intOf]; omega
        | some s =>
          have HSET := Lib.hid (set_some r [v0, v1, v2, v3] d s wr HRW.out hs)
          have HGO := Lib.hid (goes_some (c := code) hxr.out hs)
          clear hs
          obtain ⟨ns, hns⟩ : ∃ n, s.length = n := ⟨_, rfl⟩
          have HSET' : Hid (Calls Try.prog 58 #[.agg #[v0, v1, v2, v3], .int .i64 (d : Int)] wr fun e w' => ∃ A' c', e = .returned (.tuple #[.agg #[.slice A' ns c'], .bool true]) ∧ (ns ≤ c' ∧ c' ≤ maxLen) ∧ Row wr wr.heap.size A' (prs s) ∧ Below wr.heap.size wr w') := by
            rw [← hns]
            refine HSET.out.mono ?_
            rintro e w' ⟨A', c', h1, h2, h3, h4, h5⟩
            exact ⟨A', c', h1, ⟨h2, h3⟩, h4, h5⟩
          have HHAS : Hid (∀ (u u' : World) (A' : Option Addr) (c' : Nat) (o' : Obj) (v' : Bool), ns ≤ c' ∧ c' ≤ maxLen → Row wr wr.heap.size A' (prs s) → Below wr.heap.size wr u → u' = u.alloc o' → decide (hasP s code) = v' → Calls Try.prog 66 #[.agg #[.slice A' ns c'], .int .i64 code] u' fun e w' => e = .returned (.bool v') ∧ Below u'.heap.size u' w') := by
            intro u u' A' c' o' v' hc hr hb hu' hv
            subst hu'
            rw [← hns] at hc ⊢
            exact has_any A' c' s code _ (((hr.below hb).below ((Below.refl _ _).alloc hb.size _)).lt) (Nat.le_trans hc.1 hc.2) v' hv
          clear HSET hns
          by_cases hp : hasP s code
          · have HTK' : Hid ((al.take (k + 1)).filter (goesB rules d code) = (al.take k).filter (goesB rules d code) ++ [i]) := by
              have := HTK.out
              rw [HGO.out] at this
              show _ = _
              simpa [hp] using this
            have HN1 : Hid (n0 + 1 ≤ na) := by
              have h1 := congrArg List.length HTK'.out
              rw [List.length_append, ← HN0.out, List.length_singleton] at h1
              have h2 := filt_le (al := al) (f := goesB rules d code) (k + 1)
              rw [HNA.out] at h2
              show _ ≤ _
              omega
            have hn1 := HN1.out
            clear HTK
            go_wp2_with (first
              | (at_builtin
                 refine wpList_append_row _ rfl (.tmp 60) (.tmp 62) _ rfl w.heap.size 3 i0 _ 1 8 Try.underlying31 hi0 hz0 hz1 hz2 rfl (by omega) (.slice A0 n0 c0) n0 (ints (natI ((al.take k).filter (goesB rules d code)))) rfl (ow_alloc HO3.out _) _ _ 1 1 [Value.int .i64 (i : Int)] rfl rfl (row_lit w3 _ _) (ints_one1 _) (by simp only [maxLen]; omega) (by omega) (by have := HB3.out.size; simp; omega) ?_
                 intro q4 w4 o4 g4 t4
                 obtain ⟨A4, c4, rfl⟩ := ow_slice (m := n0 + 1) o4 rfl
                 rw [← ints_snoc, ← natI_snoc, ← HTK'.out] at o4
                 have HB4 : Hid (Below w.heap.size w w4) := (HB3.out.alloc HB3.out.size _).grown g4 (by have := HB3.out.size; simp; omega) (fun g hg => own_base HO.out g hg)
                 have HO4 := Lib.hid o4
                 clear o4 g4 t4)
              | (go_at_call 66
                 refine (HHAS.out w2 _ As cs _ true hcs.out hrs.out hbw.out rfl (decide_eq_true hp)).mono ?_
                 rintro e w3 ⟨rfl, hb3⟩
                 have HB3 : Hid (Below w.heap.size w w3) := (HB2.out.alloc HB2.out.size _).trans (hb3.mono (by have := HB2.out.size; simp; omega))
                 have HO3 := Lib.hid (ow_below (ow_alloc HO2.out _) hb3)
                 clear hb3)
              | (go_at_call 58
                 refine HSET'.out.mono ?_
                 rintro e w2 ⟨As, cs, rfl, hcs, hrs, hb2⟩
                 replace hcs := Lib.hid hcs
                 replace hrs := Lib.hid hrs
                 have HB2 : Hid (Below w.heap.size w w2) := HB.out.trans (hb2.mono hbs)
                 have HO2 := Lib.hid (ow_below HO.out hb2)
                 have hbw := Lib.hid hb2
                 clear hb2))
            go_roundw
            case rel => exact ⟨k + 1, n0 + 1, c4, A4, by omega, by go_num, rfl, hn1, by rw [HTK'.out, List.length_append, ← HN0.out]; rfl, HO4, HB4⟩
            case measure => simp [intOf]; omega
          · have HTK' : Hid ((al.take (k + 1)).filter (goesB rules d code) = (al.take k).filter (goesB rules d code)) := by
              have := HTK.out
              rw [HGO.out] at this
              show _ = _
              simpa [hp] using this
            clear HTK
            go_wp2_with (first
              | (go_at_call 66
                 refine (HHAS.out w2 _ As cs _ false hcs.out hrs.out hbw.out rfl (decide_eq_false hp)).mono ?_
                 rintro e w3 ⟨rfl, hb3⟩
                 have HB3 : Hid (Below w.heap.size w w3) := (HB2.out.alloc HB2.out.size _).trans (hb3.mono (by have := HB2.out.size; simp; omega))
                 have HO3 := Lib.hid (ow_below (ow_alloc HO2.out _) hb3)
                 clear hb3)
              | (go_at_call 58
                 refine HSET'.out.mono ?_
                 rintro e w2 ⟨As, cs, rfl, hcs, hrs, hb2⟩
                 replace hcs := Lib.hid hcs
                 replace hrs := Lib.hid hrs
                 have HB2 : Hid (Below w.heap.size w w2) := HB.out.trans (hb2.mono hbs)
                 have HO2 := Lib.hid (ow_below HO.out hb2)
                 have hbw := Lib.hid hb2
                 clear hb2))
            go_roundw
            case rel => exact ⟨k + 1, n0, c0, A0, by omega, by go_num, rfl, hn0, by rw [HTK'.out]; exact HN0, by rw [HTK'.out]; exact HO3, HB3⟩
            case measure => simp [intOf]; omega
      · obtain rfl : k = na := by omega
        have HAE : Hid ((al.take k).filter (goesB rules d code) = alv rules (q ++ [code])) := by
          show _ = _
          rw [alv_snoc, HD.out, HAL.out, List.take_of_length_le (by rw [HNA.out]; exact Nat.le_refl _)]
        rw [HAE.out] at HN0 HO
        have HGr := Lib.hid (HG.out.after HB.out)
        have g1 := HGr.out.cell 1
        have g2 := HGr.out.cell 2
        have f2 := HGr.out.free 2
        have hltr := HGr.out.lt
        rw [HNN.out] at g2
        simp at g1 g2
        have H3r : Hid (wr.ownsRow B 31 1 (.slice (some ⟨b, o, none⟩) nn cl) nn vs) := by
          have := ow_below H3.out HB.out
          rw [HNN.out] at this
          exact this
        have HC : Hid (n0 ≤ c0 ∧ c0 ≤ maxLen) := (ow_row HO.out).2
        go_wp2_with (first
          | (at_mapUpdate
             refine wpList_put _ rfl _ _ _ 77 rfl 101 3 link_k2 Try.underlying77 mb m (node : Int) code (nn : Int) rfl rfl rfl HM6.out HL.out ?_
             intro w7 m7 g7
             have M7 := Lib.hid m7
             have G7 := Lib.hid g7
             clear m7 g7)
          | (at_builtin
             refine wpList_append_row _ rfl (.tmp 74) (.tmp 76) _ rfl B 31 i1 _ 1 24 Try.underlying23 hi1 hy0 hy1 hy2 rfl (by omega) (.slice (some ⟨b, o, none⟩) nn cl) nn vs rfl (ow_alloc H3r.out _) _ _ 1 1 [Value.slice A0 n0 c0] rfl rfl (row_lit wr _ _) (by simp [Value.oneCell']) (by simp only [maxLen]; omega) (by omega) (by have := HBS.out.2.2; simp; omega) ?_
             intro q5 w5 o5 g5 t5
             obtain ⟨A5, c5, rfl⟩ := ow_slice (m := nn + 1) o5 rfl
             have HG5 : Hid (Blk w5 g 79 #[.slice A rules.length c, .map (some mb), .slice (some ⟨b, o, none⟩) nodes.length cl]) := bk_grown (HGr.out.alloc _) g5 (own_ne_blk H3r.out HGr.out (by decide))
             have k1 := HG5.out.cell 1
             have k3 := HG5.out.free 2
             have k4 := HG5.out.lt
             have k2 := HG5.out.cell 2
             rw [HNN.out] at k2
             simp at k1 k2
             have HM6 : Hid (MapAt (w5.setCell ⟨g, 2, none⟩ (.slice A5 (nn + 1) c5)) mb m) := by
               have hml := HM.out.lt
               refine HM.out.keep ?_
               rw [Below.heap_setCell w5 ⟨g, 2, none⟩ _ mb (blk_ne_map HG.out HM.out).symm, g5.block mb (by simp; omega) (own_ne_map H3r.out (HM.out.keep (HB.out.block mb hml))), Below.heap_alloc wr _ mb (by omega), HB.out.block mb hml]
             have O5 := Lib.hid o5
             have G5 := Lib.hid g5
             have T5 := Lib.hid t5
             clear o5 g5 t5))
        go_ret
        have hn0e := HN0.out
        subst hn0e
        have HGw := HG.out
        have H3w := H3.out
        rw [HNN.out] at HGw H3w
        obtain ⟨a1, a2, a3⟩ := TrieAt.grow (by decide) (by decide) (by decide) HNN.out HGw HM.out H3w H4.out H5.out H6.out HBG.out h8 h9 H10.out hX HQ.out HB.out HC.out.1 HC.out.2 HO.out G5.out O5.out T5.out M7.out G7.out
        exact ⟨nn, nodes ++ [q ++ [code]], rfl, by rw [← HNN.out]; simp, a1, by simp, a2, a3⟩
end Go.Proofs.Ytjohoohdjlajcaa
