/-
  transstream.New (printed by sn0.py).
-/
import Derived.Test.YtjohoohdjlajcaaSt0
import Derived.Test.YtjohoohdjlajcaaSs1
import Derived.Test.YtjohoohdjlajcaaTu5
namespace Go.UtYtjohoohdjlajcaa
open Go.RowKit
/-- rules that are copied as far as k -/
structure CopR (wr : World) (gs k : Nat) (v : Value) (rules : List TR) (vss : List (List Value)) : Prop where
  len : vss.length = k
  four : ∀ cs ∈ vss, cs.length = 4
  done : ∀ (j : Nat) (r : TR), j < k → rules[j]? = some r → ∃ cs, vss[j]? = some cs ∧ RuleAt (era wr (fun b => b ≤ gs ∨ v.ownBlock = some b)) wr.heap.size cs r
theorem RuleAt.more' {w : World} {B B' : Nat} {vs : List Value} {r : TR} (h : RuleAt w B vs r) (hB : B ≤ B') : RuleAt w B' vs r := h.more hB
theorem one4 {a b c d : Value} (h1 : a.oneCell' = true) (h2 : b.oneCell' = true) (h3 : c.oneCell' = true) (h4 : d.oneCell' = true) : ∀ u ∈ [a, b, c, d], u.oneCell' = true := by
  intro u hu
  simp at hu
  rcases hu with rfl | rfl | rfl | rfl <;> assumption
theorem SetsAt.era_more {w : World} {E : Nat → Prop} {B B' : Nat} {A : Option Addr} {sets : List (List Rg)} (h : SetsAt (era w E) B A sets) (hB : B ≤ B') : SetsAt (era w E) B' A sets := h.more hB
end Go.UtYtjohoohdjlajcaa
namespace Go.Proofs.Ytjohoohdjlajcaa
open Go.RowKit Go.UtYtjohoohdjlajcaa
attribute [local go_sem high] max2_int
theorem rl_info : (Try.prog.info? 41).map (fun i => (i.zero, i.size, i.bytes)) = some (some (.agg #[.slice none 0 0, .slice none 0 0, .slice none 0 0, .slice none 0 0]), 4, 96) := by kernel_rfl
/-- the call returns a stream without input, or an error -/
def RetNew (w : World) (rules : List TR) (e : Ending) (w' : World) : Prop :=
  Below w.heap.size w w' ∧ ((chkL rules ≠ 0 ∧ e = .returned (.tuple #[.pointer none, .int .i64 (chkL rules)])) ∨
    (chkL rules = 0 ∧ ∃ (gs B1 cr : Nat) (Ar : Option Addr), e = .returned (.tuple #[.pointer (some ⟨gs, 0, none⟩), .int .i64 0]) ∧ w.heap.size ≤ gs ∧ gs < B1 ∧ B1 ≤ w'.heap.size ∧ rules.length ≤ cr ∧ cr ≤ maxLen ∧
      Blk w' gs 53 (strC none 0 0 0 Ar rules.length cr (bfR rules) (max (ahR rules) 1) true) ∧ RulesAt (era w' (· ≤ gs)) B1 Ar rules))
set_option maxRecDepth 100000 in
set_option maxHeartbeats 16000000 in
theorem new_any (A : Option Addr) (c : Nat) (rules : List TR) (w : World) (hR : RulesAt w w.heap.size A rules) (hs : smR rules) (hsz : ∀ r ∈ rules, r.bef.length ≤ 1000000 ∧ r.mat.length ≤ 1000000 ∧ r.aft.length ≤ 1000000 ∧ r.res.length ≤ 1000000) (hl : rules.length ≤ c) (hc : c ≤ maxLen) (hrl : rules.length ≤ 1000) :
    Calls Try.prog 13 #[.slice A rules.length c] w (RetNew w rules) := by
  have HR := Lib.hid hR
  have HS := Lib.hid hs
  have HSZ := Lib.hid hsz
  have HLC := Lib.hid (And.intro hl hc)
  have HCK := tcheck_any A c rules w hR hs hl hc
  obtain ⟨n, hn⟩ : ∃ n, rules.length = n := ⟨_, rfl⟩
  have HN := Lib.hid hn
  rw [hn] at hrl hl HCK ⊢
  replace HCK := Lib.hid HCK
  unfold maxLen at hc
  clear hR hs hsz hn
  obtain ⟨i0, hi0, hz0, hz1, hz2⟩ := info_parts rl_info
  by_cases h0 : chkL rules = 0
  case neg =>
    obtain ⟨x, hx⟩ : ∃ x, chkL rules = x := ⟨_, rfl⟩
    have HX := Lib.hid hx
    rw [hx] at HCK h0
    clear hx
    go_enter Try.func13, Try.ntmps13
    go_wp2_with (first | (go_at_call 26; refine HCK.out.mono ?_; rintro e w1 ⟨rfl, hb1⟩; have HB1 := Lib.hid hb1; clear hb1))
    go_ret2
    exact ⟨HB1.out, .inl ⟨by rw [HX.out]; exact h0, by rw [HX.out]; rfl⟩⟩
  case pos =>
    have HD : Hid (dataL rules = rules) := by
      show _ = _
      unfold dataL
      rw [if_pos h0]
    have H0 := Lib.hid h0
    rw [h0] at HCK
    have hrch := data_reach rules
    rw [HD.out] at hrch
    obtain ⟨bf, hbf⟩ : ∃ n, bfR (dataL rules) = n := ⟨_, rfl⟩
    obtain ⟨ah, hah⟩ : ∃ n, ahR (dataL rules) = n := ⟨_, rfl⟩
    have HBF := Lib.hid hbf
    have HAH := Lib.hid hah
    rw [HD.out] at hbf hah
    rw [hbf, hah] at hrch
    have HBF' := Lib.hid hbf
    have HAH' := Lib.hid hah
    clear hbf hah h0
    go_enter Try.func13, Try.ntmps13
    go_wp2_with (first | (go_at_call 26; refine HCK.out.mono ?_; rintro e w1 ⟨rfl, hb1⟩; have HB1 := Lib.hid hb1; clear hb1))
    obtain ⟨w2, hw2, HB2, HGS2⟩ : ∃ v, v = w1.alloc (.cells (strC none 0 0 0 none 0 0 0 0 true) 53) ∧ Hid (Below w.heap.size w v) ∧ Hid (Blk v w1.heap.size 53 (strC none 0 0 0 none 0 0 0 0 true)) := ⟨_, rfl, HB1.out.alloc HB1.out.size _, Blk.new _ _ _⟩
    unfold strC at hw2
    simp only [Int.natCast_zero] at hw2
    rw [← hw2]
    obtain ⟨gs, hgs⟩ : ∃ x, x = w1.heap.size := ⟨_, rfl⟩
    have hgw : w.heap.size ≤ gs := by rw [hgs]; exact HB1.out.size
    rw [← hgs] at HGS2 ⊢
    clear hw2 hgs
    go_loopw [17] (fun i wr => ∃ (k c2 : Nat) (A2 : Option Addr) (vss : List (List Value)), k ≤ n ∧ i = .int .i64 (k : Int) ∧ Hid (CopR wr gs k (.slice A2 k c2) rules vss) ∧ Hid (wr.ownsRow (gs + 1) 41 4 (.slice A2 k c2) k vss.flatten) ∧ Hid (Blk wr gs 53 (strC none 0 0 0 A2 k c2 0 0 true)) ∧ Hid (Below w.heap.size w wr)) (fun i _ => n - (intOf i).toNat)
    case atStart => exact ⟨0, 0, none, [], by omega, rfl, ⟨rfl, fun cs h => by simp at h, fun j r h => by omega⟩, own_nil _, HGS2, HB2⟩
    case round =>
      obtain ⟨k, c2, A2, vss, hk, rfl, HC, HO, HGS, HB⟩ := hrel
      have hbs := HB.out.size
      by_cases hkn : k < n
      · obtain ⟨b, o, v0, v1, v2, v3, r, rfl, hb, hx, HRA, c0', c1', c2', c3'⟩ := (HR.out.below HB.out).at_ (k := k) (by rw [HN.out]; exact hkn)
        obtain ⟨Ab, cb, Am, cm, Aa, ca, Ar, cr, hvs, ⟨rb, rm, ra, rr⟩, ⟨b1, b2⟩, ⟨m1, m2⟩, ⟨a1, a2⟩, ⟨r1, r2⟩⟩ := HRA.out
        simp only [List.cons.injEq, and_true] at hvs
        obtain ⟨rfl, rfl, rfl, rfl⟩ := hvs
        obtain ⟨s1, s2', s3⟩ := HS.out r (List.mem_of_getElem? hx.out)
        obtain ⟨z1, z2, z3, z4⟩ := HSZ.out r (List.mem_of_getElem? hx.out)
        have hcop := fun (u : World) (hu : Below wr.heap.size wr u) (X : Option Addr) (cx : Nat) (sets : List (List Rg)) (hX : SetsAt wr w.heap.size X sets) (h1 : sets.length ≤ 1000000) (h2 : smS sets) => copied_any X cx sets u (((hX.more hbs).below hu).lt) h1 (fun s hs => by have := h2 s hs; omega)
        go_upto_region 8 with fail
        obtain ⟨wo, hwo, HBo, HKB⟩ : ∃ v, v = wr.alloc (.cells #[.slice Ab r.bef.length cb, .slice Am r.mat.length cm, .slice Aa r.aft.length ca, .slice Ar r.res.length cr] 41) ∧ Hid (Below wr.heap.size wr v) ∧ Hid (Blk v wr.heap.size 41 #[.slice Ab r.bef.length cb, .slice Am r.mat.length cm, .slice Aa r.aft.length ca, .slice Ar r.res.length cr]) := ⟨_, rfl, (Below.refl _ _).alloc (Nat.le_refl _) _, Blk.new _ _ _⟩
        rw [← hwo]
        clear hwo
        have HCB := fun (u : World) (hu : Below wo.heap.size wo u) => hcop u (HBo.out.trans (hu.mono HBo.out.size)) Ab cb r.bef rb z1 s1
        have HCM := fun (u : World) (hu : Below wo.heap.size wo u) => hcop u (HBo.out.trans (hu.mono HBo.out.size)) Am cm r.mat rm z2 s2'
        have HCA := fun (u : World) (hu : Below wo.heap.size wo u) => hcop u (HBo.out.trans (hu.mono HBo.out.size)) Aa ca r.aft ra z3 s3
        have HCP := fun (u : World) (hu : Below wo.heap.size wo u) => clone_pce Ar r.res.length cr (prs r.res) u (((rr.more hbs).below (HBo.out.trans (hu.mono HBo.out.size))).lt) (prs_len _) (prs_one _) (by omega)
        unfold RetCl at HCP
        obtain ⟨nb, hnb⟩ : ∃ n, r.bef.length = n := ⟨_, rfl⟩
        obtain ⟨nm, hnm⟩ : ∃ n, r.mat.length = n := ⟨_, rfl⟩
        obtain ⟨na, hna⟩ : ∃ n, r.aft.length = n := ⟨_, rfl⟩
        obtain ⟨nr, hnr⟩ : ∃ n, r.res.length = n := ⟨_, rfl⟩
        have HNB := Lib.hid hnb
        have HNM := Lib.hid hnm
        have HNA := Lib.hid hna
        have HNR := Lib.hid hnr
        rw [hnb, hnm, hna, hnr] at HKB ⊢
        rw [hnb] at HCB
        rw [hnm] at HCM
        rw [hna] at HCA
        rw [hnr] at HCP
        replace HCB := Lib.hid HCB
        replace HCM := Lib.hid HCM
        replace HCA := Lib.hid HCA
        replace HCP := Lib.hid HCP
        clear hnb hnm hna hnr rb rm ra rr HRA c0' c1' c2' c3' hcop b1 b2 m1 m2 a1 a2 r1 r2 s1 s2' s3 z1 z2 z3 z4
        have s2 := (HBo.out.cell (p := ⟨gs, 2, none⟩) HGS.out.lt).trans (HGS.out.cell 2)
        have y4 : (strC none 0 0 0 A2 k c2 0 0 true)[2]? = some (.slice A2 k c2) := rfl
        rw [y4] at s2
        clear y4
        have hgo : gs < wo.heap.size := by have := HGS.out.lt; have := HBo.out.size; omega
        have hlw : wr.heap.size < wo.heap.size := HKB.out.lt
        have HB_x0 : Hid (Below wo.heap.size wo wo.drew) := (Below.refl _ _).drew
        refine wp_region_tree (fun w' => Blk w' wr.heap.size 41 #[.slice Ab nb cb, .slice Am nm cm, .slice Aa na ca, .slice Ar nr cr]) (.float 0 (.float 1 (.float 2 (.float 3 (.float 5 (.float 6 (.float 8 (.float 9 (.float 11 (.float 12 (.float 14 (.float 15 (.two 4 (.one 7 (.one 10 (.one 13 (.one 16 (.float 17 (.one 18 (.one 19 (.float 20 (.float 21 (.one 22 .done)))))))))) 7 (.two 4 (.one 10 (.one 13 (.one 16 (.float 17 (.one 18 (.one 19 (.float 20 (.float 21 (.one 22 .done))))))))) 10 (.two 4 (.one 13 (.one 16 (.float 17 (.one 18 (.one 19 (.float 20 (.float 21 (.one 22 .done)))))))) 13 (.two 4 (.one 16 (.float 17 (.one 18 (.one 19 (.float 20 (.float 21 (.one 22 .done))))))) 16 (.float 17 (.two 4 (.one 18 (.one 19 (.float 20 (.float 21 (.one 22 .done))))) 18 (.one 4 (.one 19 (.float 20 (.float 21 (.one 22 .done))))))))))))))))))))))) (by kernel_rfl) (by kernel_rfl) (fun _ _ d _ _ h => by cases d <;> exact h) HKB.out ?_
        obtain ⟨x0, hx0⟩ : ∃ x, x = wo.drew := ⟨_, rfl⟩
        rw [← hx0] at HB_x0 ⊢
        clear hx0
        repeat (first
          | (refine wpTr_fskip (by simp only [List.getElem?_toArray, List.getElem?_cons_zero, List.getElem?_cons_succ]; rfl) (by rfl) ?_
             simp only [Act.put, List.setIfInBounds_toArray, List.set_cons_zero, List.set_cons_succ])
          | (refine wpTr_float (v := ?_) (by simp only [List.getElem?_toArray, List.getElem?_cons_zero, List.getElem?_cons_succ]; rfl) (by rfl) (fun w' hS => ?_) ?_
             rotate_left
             ((have e1 := hS.cell 0; have e2 := hS.cell 1; have e3 := hS.cell 2; have e4 := hS.cell 3; have e5 := hS.lt; simp at e1 e2 e3 e4); go_simp; first | done | rfl)
             simp only [Act.put, List.setIfInBounds_toArray, List.set_cons_zero, List.set_cons_succ]))
        refine wpTr_two ?_ ?_
        · refine stepTr_K (by simp only [List.getElem?_toArray, List.getElem?_cons_zero, List.getElem?_cons_succ]; rfl) (by rfl) (fun K hK => ?_)
          have q0 := (HB_x0.out.cell (p := ⟨gs, 2, none⟩) hgo).trans s2
          have q1 : gs < x0.heap.size := by have := HB_x0.out.size; omega
          go_simp
          clear q0 q1
          refine hK.out _ _ (HKB.out.after HB_x0.out) ?_
          clear hK K
          try simp only [Act.put, List.setIfInBounds_toArray, List.set_cons_zero, List.set_cons_succ]
          refine wpTr_one ?_
          refine stepTr_K (by simp only [List.getElem?_toArray, List.getElem?_cons_zero, List.getElem?_cons_succ]; rfl) (by rfl) (fun K hK => ?_)
          go_simp
          refine (HCB.out x0 HB_x0.out).mono ?_
          rintro e x1 ⟨AB', cB', rfl, z1, z2, z3, hb⟩
          have HXB_x1 : Hid (SetsAt (era x1 (· < wo.heap.size)) x1.heap.size AB' r.bef) := z3.era_keep (fun _ _ _ => rfl) (fun b _ h => by have := HB_x0.out.size; omega)
          have HZB := Lib.hid (And.intro z1 z2)
          have HB_x1 : Hid (Below wo.heap.size wo x1) := HB_x0.out.trans (hb.mono HB_x0.out.size)
          refine hK.out _ _ (HKB.out.after HB_x1.out) ?_
          clear hK K hb z1 z2 z3
          try simp only [Act.put, List.setIfInBounds_toArray, List.set_cons_zero, List.set_cons_succ]
          refine wpTr_one ?_
          refine stepTr_K (by simp only [List.getElem?_toArray, List.getElem?_cons_zero, List.getElem?_cons_succ]; rfl) (by rfl) (fun K hK => ?_)
          go_simp
          refine (HCM.out x1 HB_x1.out).mono ?_
          rintro e x2 ⟨AM', cM', rfl, z1, z2, z3, hb⟩
          have HXM_x2 : Hid (SetsAt (era x2 (· < wo.heap.size)) x2.heap.size AM' r.mat) := z3.era_keep (fun _ _ _ => rfl) (fun b _ h => by have := HB_x1.out.size; omega)
          have HZM := Lib.hid (And.intro z1 z2)
          have HXB_x2 := Lib.hid ((HXB_x1.out.era_keep (E' := (· < wo.heap.size)) (fun b h1 _ => hb.block b h1) (fun _ _ h => h)).more hb.size)
          have HB_x2 : Hid (Below wo.heap.size wo x2) := HB_x1.out.trans (hb.mono HB_x1.out.size)
          refine hK.out _ _ (HKB.out.after HB_x2.out) ?_
          clear hK K hb z1 z2 z3
          try simp only [Act.put, List.setIfInBounds_toArray, List.set_cons_zero, List.set_cons_succ]
          refine wpTr_one ?_
          refine stepTr_K (by simp only [List.getElem?_toArray, List.getElem?_cons_zero, List.getElem?_cons_succ]; rfl) (by rfl) (fun K hK => ?_)
          go_simp
          refine (HCA.out x2 HB_x2.out).mono ?_
          rintro e x3 ⟨AA', cA', rfl, z1, z2, z3, hb⟩
          have HXA_x3 : Hid (SetsAt (era x3 (· < wo.heap.size)) x3.heap.size AA' r.aft) := z3.era_keep (fun _ _ _ => rfl) (fun b _ h => by have := HB_x2.out.size; omega)
          have HZA := Lib.hid (And.intro z1 z2)
          have HXB_x3 := Lib.hid ((HXB_x2.out.era_keep (E' := (· < wo.heap.size)) (fun b h1 _ => hb.block b h1) (fun _ _ h => h)).more hb.size)
          have HXM_x3 := Lib.hid ((HXM_x2.out.era_keep (E' := (· < wo.heap.size)) (fun b h1 _ => hb.block b h1) (fun _ _ h => h)).more hb.size)
          have HB_x3 : Hid (Below wo.heap.size wo x3) := HB_x2.out.trans (hb.mono HB_x2.out.size)
          refine hK.out _ _ (HKB.out.after HB_x3.out) ?_
          clear hK K hb z1 z2 z3
          try simp only [Act.put, List.setIfInBounds_toArray, List.set_cons_zero, List.set_cons_succ]
          refine wpTr_one ?_
          refine stepTr_K (by simp only [List.getElem?_toArray, List.getElem?_cons_zero, List.getElem?_cons_succ]; rfl) (by rfl) (fun K hK => ?_)
          go_simp
          refine (HCP.out x3 HB_x3.out).mono ?_
          rintro e x4 ⟨AP', cP', rfl, z3, hb⟩
          have z4 := ow_row z3
          have HXP_x4 : Hid (Row (era x4 (· < wo.heap.size)) x4.heap.size AP' (prs r.res)) := z4.1.era_new (own_new z3) (fun b h => by have := HB_x3.out.size; omega)
          have HZP := Lib.hid z4.2
          have HXB_x4 := Lib.hid ((HXB_x3.out.era_keep (E' := (· < wo.heap.size)) (fun b h1 _ => hb.block b h1) (fun _ _ h => h)).more hb.size)
          have HXM_x4 := Lib.hid ((HXM_x3.out.era_keep (E' := (· < wo.heap.size)) (fun b h1 _ => hb.block b h1) (fun _ _ h => h)).more hb.size)
          have HXA_x4 := Lib.hid ((HXA_x3.out.era_keep (E' := (· < wo.heap.size)) (fun b h1 _ => hb.block b h1) (fun _ _ h => h)).more hb.size)
          have HB_x4 : Hid (Below wo.heap.size wo x4) := HB_x3.out.trans (hb.mono HB_x3.out.size)
          refine hK.out _ _ (HKB.out.after HB_x4.out) ?_
          clear hK K hb z3 z4
          try simp only [Act.put, List.setIfInBounds_toArray, List.set_cons_zero, List.set_cons_succ]
          repeat (first
            | (refine wpTr_fskip (by simp only [List.getElem?_toArray, List.getElem?_cons_zero, List.getElem?_cons_succ]; rfl) (by rfl) ?_
               simp only [Act.put, List.setIfInBounds_toArray, List.set_cons_zero, List.set_cons_succ])
            | (refine wpTr_float (v := ?_) (by simp only [List.getElem?_toArray, List.getElem?_cons_zero, List.getElem?_cons_succ]; rfl) (by rfl) (fun w' hS => ?_) ?_
               rotate_left
               ((skip); go_simp; first | done | rfl)
               simp only [Act.put, List.setIfInBounds_toArray, List.set_cons_zero, List.set_cons_succ]))
          refine wpTr_one ?_
          refine stepTr_K (by simp only [List.getElem?_toArray, List.getElem?_cons_zero, List.getElem?_cons_succ]; rfl) (by rfl) (fun K hK => ?_)
          go_simp
          obtain ⟨x5, hv, hb, HKL⟩ : ∃ v, v = x4.alloc (.cells #[.slice AB' nb cB', .slice AM' nm cM', .slice AA' na cA', .slice AP' nr cP'] 41) ∧ Below x4.heap.size x4 v ∧ Hid (Row v (x4.heap.size + 1) (some ⟨x4.heap.size, 0, none⟩) [.slice AB' nb cB', .slice AM' nm cM', .slice AA' na cA', .slice AP' nr cP']) := ⟨_, rfl, (Below.refl _ _).alloc (Nat.le_refl _) _, row_lit x4 _ _⟩
          rw [← hv]
          clear hv
          obtain ⟨lb, hlb⟩ : ∃ x, x = x4.heap.size := ⟨_, rfl⟩
          rw [← hlb] at HKL ⊢
          clear hlb
          have HXB_x5 := Lib.hid ((HXB_x4.out.era_keep (E' := (· < wo.heap.size)) (fun b h1 _ => hb.block b h1) (fun _ _ h => h)).more hb.size)
          have HXM_x5 := Lib.hid ((HXM_x4.out.era_keep (E' := (· < wo.heap.size)) (fun b h1 _ => hb.block b h1) (fun _ _ h => h)).more hb.size)
          have HXA_x5 := Lib.hid ((HXA_x4.out.era_keep (E' := (· < wo.heap.size)) (fun b h1 _ => hb.block b h1) (fun _ _ h => h)).more hb.size)
          have HXP_x5 := Lib.hid ((HXP_x4.out.era_keep (E' := (· < wo.heap.size)) (fun b h1 _ => hb.block b h1) (fun _ _ h => h)).more hb.size)
          have HB_x5 : Hid (Below wo.heap.size wo x5) := HB_x4.out.trans (hb.mono HB_x4.out.size)
          refine hK.out _ _ (HKB.out.after HB_x5.out) ?_
          clear hK K hb 
          try simp only [Act.put, List.setIfInBounds_toArray, List.set_cons_zero, List.set_cons_succ]
          refine wpTr_one ?_
          refine stepTr_K (by simp only [List.getElem?_toArray, List.getElem?_cons_zero, List.getElem?_cons_succ]; rfl) (by rfl) (fun K hK => ?_)
          refine wp_append_row _ (.tmp 25) (.tmp 39) _ rfl (gs + 1) 41 i0 _ 4 96 Try.underlying22 hi0 hz0 hz1 hz2 rfl (by omega) (.slice A2 k c2) k vss.flatten rfl (ow_below (ow_below HO.out HBo.out) HB_x5.out) _ _ 1 1 [.slice AB' nb cB', .slice AM' nm cM', .slice AA' na cA', .slice AP' nr cP'] rfl rfl HKL.out (one4 rfl rfl rfl rfl) (by simp only [maxLen]; omega) (by omega) (by have := HB_x5.out.size; omega) ?_
          intro q5 w5 o5 g5 t5
          obtain ⟨A5, c5, rfl⟩ := ow_slice (m := k + 1) o5 rfl
          have HOB := Lib.hid (ow_below (ow_below HO.out HBo.out) HB_x5.out)
          have hbn : ∀ x, (Value.slice A2 k c2).ownBlock = some x → x ≠ gs ∧ x < wr.heap.size := fun x hx => by
            have h1 := own_lt HO.out x hx
            exact ⟨by omega, h1.2.1⟩
          have hss := HB_x5.out.size
          have HKB5 : Hid (Blk w5 wr.heap.size 41 #[.slice Ab nb cb, .slice Am nm cm, .slice Aa na ca, .slice Ar nr cr]) := bk_grown (HKB.out.after HB_x5.out) g5 (fun e => by have := (hbn _ e.symm).2; omega)
          have HGS5 : Hid (Blk w5 gs 53 (strC none 0 0 0 A2 k c2 0 0 true)) := bk_grown ((HGS.out.after HBo.out).after HB_x5.out) g5 (fun e => (hbn _ e.symm).1 rfl)
          have HB5 : Hid (Below w.heap.size w w5) := ((HB.out.trans (HBo.out.mono hbs)).trans (HB_x5.out.mono (by have := HBo.out.size; omega))).grown g5 (by omega) (fun x hx => by have := own_base HOB.out x hx; omega)
          refine hK.out _ _ HKB5.out ?_
          clear hK K
          try simp only [Act.put, List.setIfInBounds_toArray, List.set_cons_zero, List.set_cons_succ]
          repeat (first
            | (refine wpTr_fskip (by simp only [List.getElem?_toArray, List.getElem?_cons_zero, List.getElem?_cons_succ]; rfl) (by rfl) ?_
               simp only [Act.put, List.setIfInBounds_toArray, List.set_cons_zero, List.set_cons_succ])
            | (refine wpTr_float (v := ?_) (by simp only [List.getElem?_toArray, List.getElem?_cons_zero, List.getElem?_cons_succ]; rfl) (by rfl) (fun w' hS => ?_) ?_
               rotate_left
               ((skip); go_simp; first | done | rfl)
               simp only [Act.put, List.setIfInBounds_toArray, List.set_cons_zero, List.set_cons_succ]))
          refine wpTr_one ?_
          refine stepTr_K (by simp only [List.getElem?_toArray, List.getElem?_cons_zero, List.getElem?_cons_succ]; rfl) (by rfl) (fun K hK => ?_)
          have y2 := HGS5.out.free 2
          have y1 := HGS5.out.cell 2
          have y3 := HGS5.out.lt
          have y4 : (strC none 0 0 0 A2 k c2 0 0 true)[2]? = some (.slice A2 k c2) := rfl
          rw [y4] at y1
          clear y4
          go_simp
          clear y1 y2 y3
          refine hK.out _ _ (HKB5.out.far (p := ⟨gs, 2, none⟩) (by have := HGS.out.lt; simp; omega) _) ?_
          clear hK K
          try simp only [Act.put, List.setIfInBounds_toArray, List.set_cons_zero, List.set_cons_succ]
          refine wpTr_done ?_
          have HB6 : Hid (Below w.heap.size w (w5.setCell ⟨gs, 2, none⟩ (.slice A5 (k + 1) c5))) := HB5.out.setCell (p := ⟨gs, 2, none⟩) hgw _
          have HGS6 : Hid (Blk (w5.setCell ⟨gs, 2, none⟩ (.slice A5 (k + 1) c5)) gs 53 (strC none 0 0 0 A5 (k + 1) c5 0 0 true)) := HGS5.out.set_ 2 _
          have HO6 : Hid ((w5.setCell ⟨gs, 2, none⟩ (.slice A5 (k + 1) c5)).ownsRow (gs + 1) 41 4 (.slice A5 (k + 1) c5) (k + 1) (vss ++ [[Value.slice AB' nb cB', Value.slice AM' nm cM', Value.slice AA' na cA', Value.slice AP' nr cP']]).flatten) := by
            have := own_keepX o5 (w' := w5.setCell ⟨gs, 2, none⟩ (.slice A5 (k + 1) c5)) (fun x hx _ => Below.heap_setCell w5 ⟨gs, 2, none⟩ _ x (fun e => by have := own_base o5 x hx; simp at e; omega))
            refine Lib.hid ?_
            rw [List.flatten_append]
            simpa using this
          have HC6 : Hid (CopR (w5.setCell ⟨gs, 2, none⟩ (.slice A5 (k + 1) c5)) gs (k + 1) (.slice A5 (k + 1) c5) rules (vss ++ [[Value.slice AB' nb cB', Value.slice AM' nm cM', Value.slice AA' na cA', Value.slice AP' nr cP']])) := by
            have hsz : (w5.setCell ⟨gs, 2, none⟩ (.slice A5 (k + 1) c5)).heap.size = w5.heap.size := by simp
            have hs5 := g5.size
            have hwos := HBo.out.size
            have hnew : ∀ b, b < x5.heap.size → (Value.slice A5 (k + 1) c5).ownBlock = some b → (Value.slice A2 k c2).ownBlock = some b := fun b hb h => by
              rcases t5 with t | t
              · rw [← t]; exact h
              · rw [t] at h
                injection h with h
                omega
            refine ⟨by simp [HC.out.len], fun cs hcs => ?_, fun j t hj ht => ?_⟩
            · rcases List.mem_append.1 hcs with h | h
              · exact HC.out.four cs h
              · simp at h
                subst h
                rfl
            · rcases Nat.lt_or_ge j k with h | h
              · obtain ⟨cs, z1, z2⟩ := HC.out.done j t h ht
                refine ⟨cs, by rw [List.getElem?_append_left (by rw [HC.out.len]; exact h)]; exact z1, ?_⟩
                rw [hsz]
                refine RuleAt.more (B := wr.heap.size) (z2.era_keep (fun b hb hx => ?_) (fun b hb hx => ?_)) (by omega)
                · rw [Below.heap_setCell w5 ⟨gs, 2, none⟩ _ b (fun e => hx (.inl (by simp at e; omega))), g5.block b (by omega) (fun e => hx (.inr e.symm)), HB_x5.out.block b (by omega), HBo.out.block b hb]
                · rcases hx with hx | hx
                  · exact .inl hx
                  · exact .inr (hnew b (by omega) hx)
              · obtain rfl : j = k := by omega
                rw [hx.out] at ht
                cases ht
                refine ⟨_, by rw [List.getElem?_append_right (by rw [HC.out.len]; exact Nat.le_refl _), HC.out.len, Nat.sub_self]; rfl, ?_⟩
                rw [hsz]
                have hkp : ∀ b, b < x5.heap.size → ¬ b < wo.heap.size → (w5.setCell ⟨gs, 2, none⟩ (.slice A5 (j + 1) c5)).heap[b]? = x5.heap[b]? := fun b hb hx => by
                  rw [Below.heap_setCell w5 ⟨gs, 2, none⟩ _ b (fun e => by simp at e; omega), g5.block b hb (fun e => by have := (hbn b e.symm).2; omega)]
                have hep : ∀ b, b < x5.heap.size → (b ≤ gs ∨ (Value.slice A5 (j + 1) c5).ownBlock = some b) → b < wo.heap.size := fun b hb hx => by
                  rcases hx with hx | hx
                  · omega
                  · have := (hbn b (hnew b hb hx)).2
                    omega
                refine ⟨AB', cB', AM', cM', AA', cA', AP', cP', by rw [HNB.out, HNM.out, HNA.out, HNR.out], ⟨(HXB_x5.out.era_keep hkp hep).more (by omega), (HXM_x5.out.era_keep hkp hep).more (by omega), (HXA_x5.out.era_keep hkp hep).more (by omega), (HXP_x5.out.era_keep hkp hep).more (by omega)⟩, by rw [HNB.out]; exact HZB.out, by rw [HNM.out]; exact HZM.out, by rw [HNA.out]; exact HZA.out, by rw [HNR.out]; exact HZP.out⟩
          clear o5 g5 t5
          go_wp2
          go_roundw
          case rel => exact ⟨k + 1, c5, A5, _, by omega, by go_num, HC6, HO6, HGS6, HB6⟩
          case measure => simp [intOf]; omega
        · refine stepTr_K (by simp only [List.getElem?_toArray, List.getElem?_cons_zero, List.getElem?_cons_succ]; rfl) (by rfl) (fun K hK => ?_)
          go_simp
          refine (HCB.out x0 HB_x0.out).mono ?_
          rintro e x6 ⟨AB', cB', rfl, z1, z2, z3, hb⟩
          have HXB_x6 : Hid (SetsAt (era x6 (· < wo.heap.size)) x6.heap.size AB' r.bef) := z3.era_keep (fun _ _ _ => rfl) (fun b _ h => by have := HB_x0.out.size; omega)
          have HZB := Lib.hid (And.intro z1 z2)
          have HB_x6 : Hid (Below wo.heap.size wo x6) := HB_x0.out.trans (hb.mono HB_x0.out.size)
          refine hK.out _ _ (HKB.out.after HB_x6.out) ?_
          clear hK K hb z1 z2 z3
          try simp only [Act.put, List.setIfInBounds_toArray, List.set_cons_zero, List.set_cons_succ]
          refine wpTr_two ?_ ?_
          · refine stepTr_K (by simp only [List.getElem?_toArray, List.getElem?_cons_zero, List.getElem?_cons_succ]; rfl) (by rfl) (fun K hK => ?_)
            have q0 := (HB_x6.out.cell (p := ⟨gs, 2, none⟩) hgo).trans s2
            have q1 : gs < x6.heap.size := by have := HB_x6.out.size; omega
            go_simp
            clear q0 q1
            refine hK.out _ _ (HKB.out.after HB_x6.out) ?_
            clear hK K
            try simp only [Act.put, List.setIfInBounds_toArray, List.set_cons_zero, List.set_cons_succ]
            refine wpTr_one ?_
            refine stepTr_K (by simp only [List.getElem?_toArray, List.getElem?_cons_zero, List.getElem?_cons_succ]; rfl) (by rfl) (fun K hK => ?_)
            go_simp
            refine (HCM.out x6 HB_x6.out).mono ?_
            rintro e x7 ⟨AM', cM', rfl, z1, z2, z3, hb⟩
            have HXM_x7 : Hid (SetsAt (era x7 (· < wo.heap.size)) x7.heap.size AM' r.mat) := z3.era_keep (fun _ _ _ => rfl) (fun b _ h => by have := HB_x6.out.size; omega)
            have HZM := Lib.hid (And.intro z1 z2)
            have HXB_x7 := Lib.hid ((HXB_x6.out.era_keep (E' := (· < wo.heap.size)) (fun b h1 _ => hb.block b h1) (fun _ _ h => h)).more hb.size)
            have HB_x7 : Hid (Below wo.heap.size wo x7) := HB_x6.out.trans (hb.mono HB_x6.out.size)
            refine hK.out _ _ (HKB.out.after HB_x7.out) ?_
            clear hK K hb z1 z2 z3
            try simp only [Act.put, List.setIfInBounds_toArray, List.set_cons_zero, List.set_cons_succ]
            refine wpTr_one ?_
            refine stepTr_K (by simp only [List.getElem?_toArray, List.getElem?_cons_zero, List.getElem?_cons_succ]; rfl) (by rfl) (fun K hK => ?_)
            go_simp
            refine (HCA.out x7 HB_x7.out).mono ?_
            rintro e x8 ⟨AA', cA', rfl, z1, z2, z3, hb⟩
            have HXA_x8 : Hid (SetsAt (era x8 (· < wo.heap.size)) x8.heap.size AA' r.aft) := z3.era_keep (fun _ _ _ => rfl) (fun b _ h => by have := HB_x7.out.size; omega)
            have HZA := Lib.hid (And.intro z1 z2)
            have HXB_x8 := Lib.hid ((HXB_x7.out.era_keep (E' := (· < wo.heap.size)) (fun b h1 _ => hb.block b h1) (fun _ _ h => h)).more hb.size)
            have HXM_x8 := Lib.hid ((HXM_x7.out.era_keep (E' := (· < wo.heap.size)) (fun b h1 _ => hb.block b h1) (fun _ _ h => h)).more hb.size)
            have HB_x8 : Hid (Below wo.heap.size wo x8) := HB_x7.out.trans (hb.mono HB_x7.out.size)
            refine hK.out _ _ (HKB.out.after HB_x8.out) ?_
            clear hK K hb z1 z2 z3
            try simp only [Act.put, List.setIfInBounds_toArray, List.set_cons_zero, List.set_cons_succ]
            refine wpTr_one ?_
            refine stepTr_K (by simp only [List.getElem?_toArray, List.getElem?_cons_zero, List.getElem?_cons_succ]; rfl) (by rfl) (fun K hK => ?_)
            go_simp
            refine (HCP.out x8 HB_x8.out).mono ?_
            rintro e x9 ⟨AP', cP', rfl, z3, hb⟩
            have z4 := ow_row z3
            have HXP_x9 : Hid (Row (era x9 (· < wo.heap.size)) x9.heap.size AP' (prs r.res)) := z4.1.era_new (own_new z3) (fun b h => by have := HB_x8.out.size; omega)
            have HZP := Lib.hid z4.2
            have HXB_x9 := Lib.hid ((HXB_x8.out.era_keep (E' := (· < wo.heap.size)) (fun b h1 _ => hb.block b h1) (fun _ _ h => h)).more hb.size)
            have HXM_x9 := Lib.hid ((HXM_x8.out.era_keep (E' := (· < wo.heap.size)) (fun b h1 _ => hb.block b h1) (fun _ _ h => h)).more hb.size)
            have HXA_x9 := Lib.hid ((HXA_x8.out.era_keep (E' := (· < wo.heap.size)) (fun b h1 _ => hb.block b h1) (fun _ _ h => h)).more hb.size)
            have HB_x9 : Hid (Below wo.heap.size wo x9) := HB_x8.out.trans (hb.mono HB_x8.out.size)
            refine hK.out _ _ (HKB.out.after HB_x9.out) ?_
            clear hK K hb z3 z4
            try simp only [Act.put, List.setIfInBounds_toArray, List.set_cons_zero, List.set_cons_succ]
            repeat (first
              | (refine wpTr_fskip (by simp only [List.getElem?_toArray, List.getElem?_cons_zero, List.getElem?_cons_succ]; rfl) (by rfl) ?_
                 simp only [Act.put, List.setIfInBounds_toArray, List.set_cons_zero, List.set_cons_succ])
              | (refine wpTr_float (v := ?_) (by simp only [List.getElem?_toArray, List.getElem?_cons_zero, List.getElem?_cons_succ]; rfl) (by rfl) (fun w' hS => ?_) ?_
                 rotate_left
                 ((skip); go_simp; first | done | rfl)
                 simp only [Act.put, List.setIfInBounds_toArray, List.set_cons_zero, List.set_cons_succ]))
            refine wpTr_one ?_
            refine stepTr_K (by simp only [List.getElem?_toArray, List.getElem?_cons_zero, List.getElem?_cons_succ]; rfl) (by rfl) (fun K hK => ?_)
            go_simp
            obtain ⟨x10, hv, hb, HKL⟩ : ∃ v, v = x9.alloc (.cells #[.slice AB' nb cB', .slice AM' nm cM', .slice AA' na cA', .slice AP' nr cP'] 41) ∧ Below x9.heap.size x9 v ∧ Hid (Row v (x9.heap.size + 1) (some ⟨x9.heap.size, 0, none⟩) [.slice AB' nb cB', .slice AM' nm cM', .slice AA' na cA', .slice AP' nr cP']) := ⟨_, rfl, (Below.refl _ _).alloc (Nat.le_refl _) _, row_lit x9 _ _⟩
            rw [← hv]
            clear hv
            obtain ⟨lb, hlb⟩ : ∃ x, x = x9.heap.size := ⟨_, rfl⟩
            rw [← hlb] at HKL ⊢
            clear hlb
            have HXB_x10 := Lib.hid ((HXB_x9.out.era_keep (E' := (· < wo.heap.size)) (fun b h1 _ => hb.block b h1) (fun _ _ h => h)).more hb.size)
            have HXM_x10 := Lib.hid ((HXM_x9.out.era_keep (E' := (· < wo.heap.size)) (fun b h1 _ => hb.block b h1) (fun _ _ h => h)).more hb.size)
            have HXA_x10 := Lib.hid ((HXA_x9.out.era_keep (E' := (· < wo.heap.size)) (fun b h1 _ => hb.block b h1) (fun _ _ h => h)).more hb.size)
            have HXP_x10 := Lib.hid ((HXP_x9.out.era_keep (E' := (· < wo.heap.size)) (fun b h1 _ => hb.block b h1) (fun _ _ h => h)).more hb.size)
            have HB_x10 : Hid (Below wo.heap.size wo x10) := HB_x9.out.trans (hb.mono HB_x9.out.size)
            refine hK.out _ _ (HKB.out.after HB_x10.out) ?_
            clear hK K hb 
            try simp only [Act.put, List.setIfInBounds_toArray, List.set_cons_zero, List.set_cons_succ]
            refine wpTr_one ?_
            refine stepTr_K (by simp only [List.getElem?_toArray, List.getElem?_cons_zero, List.getElem?_cons_succ]; rfl) (by rfl) (fun K hK => ?_)
            refine wp_append_row _ (.tmp 25) (.tmp 39) _ rfl (gs + 1) 41 i0 _ 4 96 Try.underlying22 hi0 hz0 hz1 hz2 rfl (by omega) (.slice A2 k c2) k vss.flatten rfl (ow_below (ow_below HO.out HBo.out) HB_x10.out) _ _ 1 1 [.slice AB' nb cB', .slice AM' nm cM', .slice AA' na cA', .slice AP' nr cP'] rfl rfl HKL.out (one4 rfl rfl rfl rfl) (by simp only [maxLen]; omega) (by omega) (by have := HB_x10.out.size; omega) ?_
            intro q5 w5 o5 g5 t5
            obtain ⟨A5, c5, rfl⟩ := ow_slice (m := k + 1) o5 rfl
            have HOB := Lib.hid (ow_below (ow_below HO.out HBo.out) HB_x10.out)
            have hbn : ∀ x, (Value.slice A2 k c2).ownBlock = some x → x ≠ gs ∧ x < wr.heap.size := fun x hx => by
              have h1 := own_lt HO.out x hx
              exact ⟨by omega, h1.2.1⟩
            have hss := HB_x10.out.size
            have HKB5 : Hid (Blk w5 wr.heap.size 41 #[.slice Ab nb cb, .slice Am nm cm, .slice Aa na ca, .slice Ar nr cr]) := bk_grown (HKB.out.after HB_x10.out) g5 (fun e => by have := (hbn _ e.symm).2; omega)
            have HGS5 : Hid (Blk w5 gs 53 (strC none 0 0 0 A2 k c2 0 0 true)) := bk_grown ((HGS.out.after HBo.out).after HB_x10.out) g5 (fun e => (hbn _ e.symm).1 rfl)
            have HB5 : Hid (Below w.heap.size w w5) := ((HB.out.trans (HBo.out.mono hbs)).trans (HB_x10.out.mono (by have := HBo.out.size; omega))).grown g5 (by omega) (fun x hx => by have := own_base HOB.out x hx; omega)
            refine hK.out _ _ HKB5.out ?_
            clear hK K
            try simp only [Act.put, List.setIfInBounds_toArray, List.set_cons_zero, List.set_cons_succ]
            repeat (first
              | (refine wpTr_fskip (by simp only [List.getElem?_toArray, List.getElem?_cons_zero, List.getElem?_cons_succ]; rfl) (by rfl) ?_
                 simp only [Act.put, List.setIfInBounds_toArray, List.set_cons_zero, List.set_cons_succ])
              | (refine wpTr_float (v := ?_) (by simp only [List.getElem?_toArray, List.getElem?_cons_zero, List.getElem?_cons_succ]; rfl) (by rfl) (fun w' hS => ?_) ?_
                 rotate_left
                 ((skip); go_simp; first | done | rfl)
                 simp only [Act.put, List.setIfInBounds_toArray, List.set_cons_zero, List.set_cons_succ]))
            refine wpTr_one ?_
            refine stepTr_K (by simp only [List.getElem?_toArray, List.getElem?_cons_zero, List.getElem?_cons_succ]; rfl) (by rfl) (fun K hK => ?_)
            have y2 := HGS5.out.free 2
            have y1 := HGS5.out.cell 2
            have y3 := HGS5.out.lt
            have y4 : (strC none 0 0 0 A2 k c2 0 0 true)[2]? = some (.slice A2 k c2) := rfl
            rw [y4] at y1
            clear y4
            go_simp
            clear y1 y2 y3
            refine hK.out _ _ (HKB5.out.far (p := ⟨gs, 2, none⟩) (by have := HGS.out.lt; simp; omega) _) ?_
            clear hK K
            try simp only [Act.put, List.setIfInBounds_toArray, List.set_cons_zero, List.set_cons_succ]
            refine wpTr_done ?_
            have HB6 : Hid (Below w.heap.size w (w5.setCell ⟨gs, 2, none⟩ (.slice A5 (k + 1) c5))) := HB5.out.setCell (p := ⟨gs, 2, none⟩) hgw _
            have HGS6 : Hid (Blk (w5.setCell ⟨gs, 2, none⟩ (.slice A5 (k + 1) c5)) gs 53 (strC none 0 0 0 A5 (k + 1) c5 0 0 true)) := HGS5.out.set_ 2 _
            have HO6 : Hid ((w5.setCell ⟨gs, 2, none⟩ (.slice A5 (k + 1) c5)).ownsRow (gs + 1) 41 4 (.slice A5 (k + 1) c5) (k + 1) (vss ++ [[Value.slice AB' nb cB', Value.slice AM' nm cM', Value.slice AA' na cA', Value.slice AP' nr cP']]).flatten) := by
              have := own_keepX o5 (w' := w5.setCell ⟨gs, 2, none⟩ (.slice A5 (k + 1) c5)) (fun x hx _ => Below.heap_setCell w5 ⟨gs, 2, none⟩ _ x (fun e => by have := own_base o5 x hx; simp at e; omega))
              refine Lib.hid ?_
              rw [List.flatten_append]
              simpa using this
            have HC6 : Hid (CopR (w5.setCell ⟨gs, 2, none⟩ (.slice A5 (k + 1) c5)) gs (k + 1) (.slice A5 (k + 1) c5) rules (vss ++ [[Value.slice AB' nb cB', Value.slice AM' nm cM', Value.slice AA' na cA', Value.slice AP' nr cP']])) := by
              have hsz : (w5.setCell ⟨gs, 2, none⟩ (.slice A5 (k + 1) c5)).heap.size = w5.heap.size := by simp
              have hs5 := g5.size
              have hwos := HBo.out.size
              have hnew : ∀ b, b < x10.heap.size → (Value.slice A5 (k + 1) c5).ownBlock = some b → (Value.slice A2 k c2).ownBlock = some b := fun b hb h => by
                rcases t5 with t | t
                · rw [← t]; exact h
                · rw [t] at h
                  injection h with h
                  omega
              refine ⟨by simp [HC.out.len], fun cs hcs => ?_, fun j t hj ht => ?_⟩
              · rcases List.mem_append.1 hcs with h | h
                · exact HC.out.four cs h
                · simp at h
                  subst h
                  rfl
              · rcases Nat.lt_or_ge j k with h | h
                · obtain ⟨cs, z1, z2⟩ := HC.out.done j t h ht
                  refine ⟨cs, by rw [List.getElem?_append_left (by rw [HC.out.len]; exact h)]; exact z1, ?_⟩
                  rw [hsz]
                  refine RuleAt.more (B := wr.heap.size) (z2.era_keep (fun b hb hx => ?_) (fun b hb hx => ?_)) (by omega)
                  · rw [Below.heap_setCell w5 ⟨gs, 2, none⟩ _ b (fun e => hx (.inl (by simp at e; omega))), g5.block b (by omega) (fun e => hx (.inr e.symm)), HB_x10.out.block b (by omega), HBo.out.block b hb]
                  · rcases hx with hx | hx
                    · exact .inl hx
                    · exact .inr (hnew b (by omega) hx)
                · obtain rfl : j = k := by omega
                  rw [hx.out] at ht
                  cases ht
                  refine ⟨_, by rw [List.getElem?_append_right (by rw [HC.out.len]; exact Nat.le_refl _), HC.out.len, Nat.sub_self]; rfl, ?_⟩
                  rw [hsz]
                  have hkp : ∀ b, b < x10.heap.size → ¬ b < wo.heap.size → (w5.setCell ⟨gs, 2, none⟩ (.slice A5 (j + 1) c5)).heap[b]? = x10.heap[b]? := fun b hb hx => by
                    rw [Below.heap_setCell w5 ⟨gs, 2, none⟩ _ b (fun e => by simp at e; omega), g5.block b hb (fun e => by have := (hbn b e.symm).2; omega)]
                  have hep : ∀ b, b < x10.heap.size → (b ≤ gs ∨ (Value.slice A5 (j + 1) c5).ownBlock = some b) → b < wo.heap.size := fun b hb hx => by
                    rcases hx with hx | hx
                    · omega
                    · have := (hbn b (hnew b hb hx)).2
                      omega
                  refine ⟨AB', cB', AM', cM', AA', cA', AP', cP', by rw [HNB.out, HNM.out, HNA.out, HNR.out], ⟨(HXB_x10.out.era_keep hkp hep).more (by omega), (HXM_x10.out.era_keep hkp hep).more (by omega), (HXA_x10.out.era_keep hkp hep).more (by omega), (HXP_x10.out.era_keep hkp hep).more (by omega)⟩, by rw [HNB.out]; exact HZB.out, by rw [HNM.out]; exact HZM.out, by rw [HNA.out]; exact HZA.out, by rw [HNR.out]; exact HZP.out⟩
            clear o5 g5 t5
            go_wp2
            go_roundw
            case rel => exact ⟨k + 1, c5, A5, _, by omega, by go_num, HC6, HO6, HGS6, HB6⟩
            case measure => simp [intOf]; omega
          · refine stepTr_K (by simp only [List.getElem?_toArray, List.getElem?_cons_zero, List.getElem?_cons_succ]; rfl) (by rfl) (fun K hK => ?_)
            go_simp
            refine (HCM.out x6 HB_x6.out).mono ?_
            rintro e x11 ⟨AM', cM', rfl, z1, z2, z3, hb⟩
            have HXM_x11 : Hid (SetsAt (era x11 (· < wo.heap.size)) x11.heap.size AM' r.mat) := z3.era_keep (fun _ _ _ => rfl) (fun b _ h => by have := HB_x6.out.size; omega)
            have HZM := Lib.hid (And.intro z1 z2)
            have HXB_x11 := Lib.hid ((HXB_x6.out.era_keep (E' := (· < wo.heap.size)) (fun b h1 _ => hb.block b h1) (fun _ _ h => h)).more hb.size)
            have HB_x11 : Hid (Below wo.heap.size wo x11) := HB_x6.out.trans (hb.mono HB_x6.out.size)
            refine hK.out _ _ (HKB.out.after HB_x11.out) ?_
            clear hK K hb z1 z2 z3
            try simp only [Act.put, List.setIfInBounds_toArray, List.set_cons_zero, List.set_cons_succ]
            refine wpTr_two ?_ ?_
            · refine stepTr_K (by simp only [List.getElem?_toArray, List.getElem?_cons_zero, List.getElem?_cons_succ]; rfl) (by rfl) (fun K hK => ?_)
              have q0 := (HB_x11.out.cell (p := ⟨gs, 2, none⟩) hgo).trans s2
              have q1 : gs < x11.heap.size := by have := HB_x11.out.size; omega
              go_simp
              clear q0 q1
              refine hK.out _ _ (HKB.out.after HB_x11.out) ?_
              clear hK K
              try simp only [Act.put, List.setIfInBounds_toArray, List.set_cons_zero, List.set_cons_succ]
              refine wpTr_one ?_
              refine stepTr_K (by simp only [List.getElem?_toArray, List.getElem?_cons_zero, List.getElem?_cons_succ]; rfl) (by rfl) (fun K hK => ?_)
              go_simp
              refine (HCA.out x11 HB_x11.out).mono ?_
              rintro e x12 ⟨AA', cA', rfl, z1, z2, z3, hb⟩
              have HXA_x12 : Hid (SetsAt (era x12 (· < wo.heap.size)) x12.heap.size AA' r.aft) := z3.era_keep (fun _ _ _ => rfl) (fun b _ h => by have := HB_x11.out.size; omega)
              have HZA := Lib.hid (And.intro z1 z2)
              have HXB_x12 := Lib.hid ((HXB_x11.out.era_keep (E' := (· < wo.heap.size)) (fun b h1 _ => hb.block b h1) (fun _ _ h => h)).more hb.size)
              have HXM_x12 := Lib.hid ((HXM_x11.out.era_keep (E' := (· < wo.heap.size)) (fun b h1 _ => hb.block b h1) (fun _ _ h => h)).more hb.size)
              have HB_x12 : Hid (Below wo.heap.size wo x12) := HB_x11.out.trans (hb.mono HB_x11.out.size)
              refine hK.out _ _ (HKB.out.after HB_x12.out) ?_
              clear hK K hb z1 z2 z3
              try simp only [Act.put, List.setIfInBounds_toArray, List.set_cons_zero, List.set_cons_succ]
              refine wpTr_one ?_
              refine stepTr_K (by simp only [List.getElem?_toArray, List.getElem?_cons_zero, List.getElem?_cons_succ]; rfl) (by rfl) (fun K hK => ?_)
              go_simp
              refine (HCP.out x12 HB_x12.out).mono ?_
              rintro e x13 ⟨AP', cP', rfl, z3, hb⟩
              have z4 := ow_row z3
              have HXP_x13 : Hid (Row (era x13 (· < wo.heap.size)) x13.heap.size AP' (prs r.res)) := z4.1.era_new (own_new z3) (fun b h => by have := HB_x12.out.size; omega)
              have HZP := Lib.hid z4.2
              have HXB_x13 := Lib.hid ((HXB_x12.out.era_keep (E' := (· < wo.heap.size)) (fun b h1 _ => hb.block b h1) (fun _ _ h => h)).more hb.size)
              have HXM_x13 := Lib.hid ((HXM_x12.out.era_keep (E' := (· < wo.heap.size)) (fun b h1 _ => hb.block b h1) (fun _ _ h => h)).more hb.size)
              have HXA_x13 := Lib.hid ((HXA_x12.out.era_keep (E' := (· < wo.heap.size)) (fun b h1 _ => hb.block b h1) (fun _ _ h => h)).more hb.size)
              have HB_x13 : Hid (Below wo.heap.size wo x13) := HB_x12.out.trans (hb.mono HB_x12.out.size)
              refine hK.out _ _ (HKB.out.after HB_x13.out) ?_
              clear hK K hb z3 z4
              try simp only [Act.put, List.setIfInBounds_toArray, List.set_cons_zero, List.set_cons_succ]
              repeat (first
                | (refine wpTr_fskip (by simp only [List.getElem?_toArray, List.getElem?_cons_zero, List.getElem?_cons_succ]; rfl) (by rfl) ?_
                   simp only [Act.put, List.setIfInBounds_toArray, List.set_cons_zero, List.set_cons_succ])
                | (refine wpTr_float (v := ?_) (by simp only [List.getElem?_toArray, List.getElem?_cons_zero, List.getElem?_cons_succ]; rfl) (by rfl) (fun w' hS => ?_) ?_
                   rotate_left
                   ((skip); go_simp; first | done | rfl)
                   simp only [Act.put, List.setIfInBounds_toArray, List.set_cons_zero, List.set_cons_succ]))
              refine wpTr_one ?_
              refine stepTr_K (by simp only [List.getElem?_toArray, List.getElem?_cons_zero, List.getElem?_cons_succ]; rfl) (by rfl) (fun K hK => ?_)
              go_simp
              obtain ⟨x14, hv, hb, HKL⟩ : ∃ v, v = x13.alloc (.cells #[.slice AB' nb cB', .slice AM' nm cM', .slice AA' na cA', .slice AP' nr cP'] 41) ∧ Below x13.heap.size x13 v ∧ Hid (Row v (x13.heap.size + 1) (some ⟨x13.heap.size, 0, none⟩) [.slice AB' nb cB', .slice AM' nm cM', .slice AA' na cA', .slice AP' nr cP']) := ⟨_, rfl, (Below.refl _ _).alloc (Nat.le_refl _) _, row_lit x13 _ _⟩
              rw [← hv]
              clear hv
              obtain ⟨lb, hlb⟩ : ∃ x, x = x13.heap.size := ⟨_, rfl⟩
              rw [← hlb] at HKL ⊢
              clear hlb
              have HXB_x14 := Lib.hid ((HXB_x13.out.era_keep (E' := (· < wo.heap.size)) (fun b h1 _ => hb.block b h1) (fun _ _ h => h)).more hb.size)
              have HXM_x14 := Lib.hid ((HXM_x13.out.era_keep (E' := (· < wo.heap.size)) (fun b h1 _ => hb.block b h1) (fun _ _ h => h)).more hb.size)
              have HXA_x14 := Lib.hid ((HXA_x13.out.era_keep (E' := (· < wo.heap.size)) (fun b h1 _ => hb.block b h1) (fun _ _ h => h)).more hb.size)
              have HXP_x14 := Lib.hid ((HXP_x13.out.era_keep (E' := (· < wo.heap.size)) (fun b h1 _ => hb.block b h1) (fun _ _ h => h)).more hb.size)
              have HB_x14 : Hid (Below wo.heap.size wo x14) := HB_x13.out.trans (hb.mono HB_x13.out.size)
              refine hK.out _ _ (HKB.out.after HB_x14.out) ?_
              clear hK K hb 
              try simp only [Act.put, List.setIfInBounds_toArray, List.set_cons_zero, List.set_cons_succ]
              refine wpTr_one ?_
              refine stepTr_K (by simp only [List.getElem?_toArray, List.getElem?_cons_zero, List.getElem?_cons_succ]; rfl) (by rfl) (fun K hK => ?_)
              refine wp_append_row _ (.tmp 25) (.tmp 39) _ rfl (gs + 1) 41 i0 _ 4 96 Try.underlying22 hi0 hz0 hz1 hz2 rfl (by omega) (.slice A2 k c2) k vss.flatten rfl (ow_below (ow_below HO.out HBo.out) HB_x14.out) _ _ 1 1 [.slice AB' nb cB', .slice AM' nm cM', .slice AA' na cA', .slice AP' nr cP'] rfl rfl HKL.out (one4 rfl rfl rfl rfl) (by simp only [maxLen]; omega) (by omega) (by have := HB_x14.out.size; omega) ?_
              intro q5 w5 o5 g5 t5
              obtain ⟨A5, c5, rfl⟩ := ow_slice (m := k + 1) o5 rfl
              have HOB := Lib.hid (ow_below (ow_below HO.out HBo.out) HB_x14.out)
              have hbn : ∀ x, (Value.slice A2 k c2).ownBlock = some x → x ≠ gs ∧ x < wr.heap.size := fun x hx => by
                have h1 := own_lt HO.out x hx
                exact ⟨by omega, h1.2.1⟩
              have hss := HB_x14.out.size
              have HKB5 : Hid (Blk w5 wr.heap.size 41 #[.slice Ab nb cb, .slice Am nm cm, .slice Aa na ca, .slice Ar nr cr]) := bk_grown (HKB.out.after HB_x14.out) g5 (fun e => by have := (hbn _ e.symm).2; omega)
              have HGS5 : Hid (Blk w5 gs 53 (strC none 0 0 0 A2 k c2 0 0 true)) := bk_grown ((HGS.out.after HBo.out).after HB_x14.out) g5 (fun e => (hbn _ e.symm).1 rfl)
              have HB5 : Hid (Below w.heap.size w w5) := ((HB.out.trans (HBo.out.mono hbs)).trans (HB_x14.out.mono (by have := HBo.out.size; omega))).grown g5 (by omega) (fun x hx => by have := own_base HOB.out x hx; omega)
              refine hK.out _ _ HKB5.out ?_
              clear hK K
              try simp only [Act.put, List.setIfInBounds_toArray, List.set_cons_zero, List.set_cons_succ]
              repeat (first
                | (refine wpTr_fskip (by simp only [List.getElem?_toArray, List.getElem?_cons_zero, List.getElem?_cons_succ]; rfl) (by rfl) ?_
                   simp only [Act.put, List.setIfInBounds_toArray, List.set_cons_zero, List.set_cons_succ])
                | (refine wpTr_float (v := ?_) (by simp only [List.getElem?_toArray, List.getElem?_cons_zero, List.getElem?_cons_succ]; rfl) (by rfl) (fun w' hS => ?_) ?_
                   rotate_left
                   ((skip); go_simp; first | done | rfl)
                   simp only [Act.put, List.setIfInBounds_toArray, List.set_cons_zero, List.set_cons_succ]))
              refine wpTr_one ?_
              refine stepTr_K (by simp only [List.getElem?_toArray, List.getElem?_cons_zero, List.getElem?_cons_succ]; rfl) (by rfl) (fun K hK => ?_)
              have y2 := HGS5.out.free 2
              have y1 := HGS5.out.cell 2
              have y3 := HGS5.out.lt
              have y4 : (strC none 0 0 0 A2 k c2 0 0 true)[2]? = some (.slice A2 k c2) := rfl
              rw [y4] at y1
              clear y4
              go_simp
              clear y1 y2 y3
              refine hK.out _ _ (HKB5.out.far (p := ⟨gs, 2, none⟩) (by have := HGS.out.lt; simp; omega) _) ?_
              clear hK K
              try simp only [Act.put, List.setIfInBounds_toArray, List.set_cons_zero, List.set_cons_succ]
              refine wpTr_done ?_
              have HB6 : Hid (Below w.heap.size w (w5.setCell ⟨gs, 2, none⟩ (.slice A5 (k + 1) c5))) := HB5.out.setCell (p := ⟨gs, 2, none⟩) hgw _
              have HGS6 : Hid (Blk (w5.setCell ⟨gs, 2, none⟩ (.slice A5 (k + 1) c5)) gs 53 (strC none 0 0 0 A5 (k + 1) c5 0 0 true)) := HGS5.out.set_ 2 _
              have HO6 : Hid ((w5.setCell ⟨gs, 2, none⟩ (.slice A5 (k + 1) c5)).ownsRow (gs + 1) 41 4 (.slice A5 (k + 1) c5) (k + 1) (vss ++ [[Value.slice AB' nb cB', Value.slice AM' nm cM', Value.slice AA' na cA', Value.slice AP' nr cP']]).flatten) := by
                have := own_keepX o5 (w' := w5.setCell ⟨gs, 2, none⟩ (.slice A5 (k + 1) c5)) (fun x hx _ => Below.heap_setCell w5 ⟨gs, 2, none⟩ _ x (fun e => by have := own_base o5 x hx; simp at e; omega))
                refine Lib.hid ?_
                rw [List.flatten_append]
                simpa using this
              have HC6 : Hid (CopR (w5.setCell ⟨gs, 2, none⟩ (.slice A5 (k + 1) c5)) gs (k + 1) (.slice A5 (k + 1) c5) rules (vss ++ [[Value.slice AB' nb cB', Value.slice AM' nm cM', Value.slice AA' na cA', Value.slice AP' nr cP']])) := by
                have hsz : (w5.setCell ⟨gs, 2, none⟩ (.slice A5 (k + 1) c5)).heap.size = w5.heap.size := by simp
                have hs5 := g5.size
                have hwos := HBo.out.size
                have hnew : ∀ b, b < x14.heap.size → (Value.slice A5 (k + 1) c5).ownBlock = some b → (Value.slice A2 k c2).ownBlock = some b := fun b hb h => by
                  rcases t5 with t | t
                  · rw [← t]; exact h
                  · rw [t] at h
                    injection h with h
                    omega
                refine ⟨by simp [HC.out.len], fun cs hcs => ?_, fun j t hj ht => ?_⟩
                · rcases List.mem_append.1 hcs with h | h
                  · exact HC.out.four cs h
                  · simp at h
                    subst h
                    rfl
                · rcases Nat.lt_or_ge j k with h | h
                  · obtain ⟨cs, z1, z2⟩ := HC.out.done j t h ht
                    refine ⟨cs, by rw [List.getElem?_append_left (by rw [HC.out.len]; exact h)]; exact z1, ?_⟩
                    rw [hsz]
                    refine RuleAt.more (B := wr.heap.size) (z2.era_keep (fun b hb hx => ?_) (fun b hb hx => ?_)) (by omega)
                    · rw [Below.heap_setCell w5 ⟨gs, 2, none⟩ _ b (fun e => hx (.inl (by simp at e; omega))), g5.block b (by omega) (fun e => hx (.inr e.symm)), HB_x14.out.block b (by omega), HBo.out.block b hb]
                    · rcases hx with hx | hx
                      · exact .inl hx
                      · exact .inr (hnew b (by omega) hx)
                  · obtain rfl : j = k := by omega
                    rw [hx.out] at ht
                    cases ht
                    refine ⟨_, by rw [List.getElem?_append_right (by rw [HC.out.len]; exact Nat.le_refl _), HC.out.len, Nat.sub_self]; rfl, ?_⟩
                    rw [hsz]
                    have hkp : ∀ b, b < x14.heap.size → ¬ b < wo.heap.size → (w5.setCell ⟨gs, 2, none⟩ (.slice A5 (j + 1) c5)).heap[b]? = x14.heap[b]? := fun b hb hx => by
                      rw [Below.heap_setCell w5 ⟨gs, 2, none⟩ _ b (fun e => by simp at e; omega), g5.block b hb (fun e => by have := (hbn b e.symm).2; omega)]
                    have hep : ∀ b, b < x14.heap.size → (b ≤ gs ∨ (Value.slice A5 (j + 1) c5).ownBlock = some b) → b < wo.heap.size := fun b hb hx => by
                      rcases hx with hx | hx
                      · omega
                      · have := (hbn b (hnew b hb hx)).2
                        omega
                    refine ⟨AB', cB', AM', cM', AA', cA', AP', cP', by rw [HNB.out, HNM.out, HNA.out, HNR.out], ⟨(HXB_x14.out.era_keep hkp hep).more (by omega), (HXM_x14.out.era_keep hkp hep).more (by omega), (HXA_x14.out.era_keep hkp hep).more (by omega), (HXP_x14.out.era_keep hkp hep).more (by omega)⟩, by rw [HNB.out]; exact HZB.out, by rw [HNM.out]; exact HZM.out, by rw [HNA.out]; exact HZA.out, by rw [HNR.out]; exact HZP.out⟩
              clear o5 g5 t5
              go_wp2
              go_roundw
              case rel => exact ⟨k + 1, c5, A5, _, by omega, by go_num, HC6, HO6, HGS6, HB6⟩
              case measure => simp [intOf]; omega
            · refine stepTr_K (by simp only [List.getElem?_toArray, List.getElem?_cons_zero, List.getElem?_cons_succ]; rfl) (by rfl) (fun K hK => ?_)
              go_simp
              refine (HCA.out x11 HB_x11.out).mono ?_
              rintro e x15 ⟨AA', cA', rfl, z1, z2, z3, hb⟩
              have HXA_x15 : Hid (SetsAt (era x15 (· < wo.heap.size)) x15.heap.size AA' r.aft) := z3.era_keep (fun _ _ _ => rfl) (fun b _ h => by have := HB_x11.out.size; omega)
              have HZA := Lib.hid (And.intro z1 z2)
              have HXB_x15 := Lib.hid ((HXB_x11.out.era_keep (E' := (· < wo.heap.size)) (fun b h1 _ => hb.block b h1) (fun _ _ h => h)).more hb.size)
              have HXM_x15 := Lib.hid ((HXM_x11.out.era_keep (E' := (· < wo.heap.size)) (fun b h1 _ => hb.block b h1) (fun _ _ h => h)).more hb.size)
              have HB_x15 : Hid (Below wo.heap.size wo x15) := HB_x11.out.trans (hb.mono HB_x11.out.size)
              refine hK.out _ _ (HKB.out.after HB_x15.out) ?_
              clear hK K hb z1 z2 z3
              try simp only [Act.put, List.setIfInBounds_toArray, List.set_cons_zero, List.set_cons_succ]
              refine wpTr_two ?_ ?_
              · refine stepTr_K (by simp only [List.getElem?_toArray, List.getElem?_cons_zero, List.getElem?_cons_succ]; rfl) (by rfl) (fun K hK => ?_)
                have q0 := (HB_x15.out.cell (p := ⟨gs, 2, none⟩) hgo).trans s2
                have q1 : gs < x15.heap.size := by have := HB_x15.out.size; omega
                go_simp
                clear q0 q1
                refine hK.out _ _ (HKB.out.after HB_x15.out) ?_
                clear hK K
                try simp only [Act.put, List.setIfInBounds_toArray, List.set_cons_zero, List.set_cons_succ]
                refine wpTr_one ?_
                refine stepTr_K (by simp only [List.getElem?_toArray, List.getElem?_cons_zero, List.getElem?_cons_succ]; rfl) (by rfl) (fun K hK => ?_)
                go_simp
                refine (HCP.out x15 HB_x15.out).mono ?_
                rintro e x16 ⟨AP', cP', rfl, z3, hb⟩
                have z4 := ow_row z3
                have HXP_x16 : Hid (Row (era x16 (· < wo.heap.size)) x16.heap.size AP' (prs r.res)) := z4.1.era_new (own_new z3) (fun b h => by have := HB_x15.out.size; omega)
                have HZP := Lib.hid z4.2
                have HXB_x16 := Lib.hid ((HXB_x15.out.era_keep (E' := (· < wo.heap.size)) (fun b h1 _ => hb.block b h1) (fun _ _ h => h)).more hb.size)
                have HXM_x16 := Lib.hid ((HXM_x15.out.era_keep (E' := (· < wo.heap.size)) (fun b h1 _ => hb.block b h1) (fun _ _ h => h)).more hb.size)
                have HXA_x16 := Lib.hid ((HXA_x15.out.era_keep (E' := (· < wo.heap.size)) (fun b h1 _ => hb.block b h1) (fun _ _ h => h)).more hb.size)
                have HB_x16 : Hid (Below wo.heap.size wo x16) := HB_x15.out.trans (hb.mono HB_x15.out.size)
                refine hK.out _ _ (HKB.out.after HB_x16.out) ?_
                clear hK K hb z3 z4
                try simp only [Act.put, List.setIfInBounds_toArray, List.set_cons_zero, List.set_cons_succ]
                repeat (first
                  | (refine wpTr_fskip (by simp only [List.getElem?_toArray, List.getElem?_cons_zero, List.getElem?_cons_succ]; rfl) (by rfl) ?_
                     simp only [Act.put, List.setIfInBounds_toArray, List.set_cons_zero, List.set_cons_succ])
                  | (refine wpTr_float (v := ?_) (by simp only [List.getElem?_toArray, List.getElem?_cons_zero, List.getElem?_cons_succ]; rfl) (by rfl) (fun w' hS => ?_) ?_
                     rotate_left
                     ((skip); go_simp; first | done | rfl)
                     simp only [Act.put, List.setIfInBounds_toArray, List.set_cons_zero, List.set_cons_succ]))
                refine wpTr_one ?_
                refine stepTr_K (by simp only [List.getElem?_toArray, List.getElem?_cons_zero, List.getElem?_cons_succ]; rfl) (by rfl) (fun K hK => ?_)
                go_simp
                obtain ⟨x17, hv, hb, HKL⟩ : ∃ v, v = x16.alloc (.cells #[.slice AB' nb cB', .slice AM' nm cM', .slice AA' na cA', .slice AP' nr cP'] 41) ∧ Below x16.heap.size x16 v ∧ Hid (Row v (x16.heap.size + 1) (some ⟨x16.heap.size, 0, none⟩) [.slice AB' nb cB', .slice AM' nm cM', .slice AA' na cA', .slice AP' nr cP']) := ⟨_, rfl, (Below.refl _ _).alloc (Nat.le_refl _) _, row_lit x16 _ _⟩
                rw [← hv]
                clear hv
                obtain ⟨lb, hlb⟩ : ∃ x, x = x16.heap.size := ⟨_, rfl⟩
                rw [← hlb] at HKL ⊢
                clear hlb
                have HXB_x17 := Lib.hid ((HXB_x16.out.era_keep (E' := (· < wo.heap.size)) (fun b h1 _ => hb.block b h1) (fun _ _ h => h)).more hb.size)
                have HXM_x17 := Lib.hid ((HXM_x16.out.era_keep (E' := (· < wo.heap.size)) (fun b h1 _ => hb.block b h1) (fun _ _ h => h)).more hb.size)
                have HXA_x17 := Lib.hid ((HXA_x16.out.era_keep (E' := (· < wo.heap.size)) (fun b h1 _ => hb.block b h1) (fun _ _ h => h)).more hb.size)
                have HXP_x17 := Lib.hid ((HXP_x16.out.era_keep (E' := (· < wo.heap.size)) (fun b h1 _ => hb.block b h1) (fun _ _ h => h)).more hb.size)
                have HB_x17 : Hid (Below wo.heap.size wo x17) := HB_x16.out.trans (hb.mono HB_x16.out.size)
                refine hK.out _ _ (HKB.out.after HB_x17.out) ?_
                clear hK K hb 
                try simp only [Act.put, List.setIfInBounds_toArray, List.set_cons_zero, List.set_cons_succ]
                refine wpTr_one ?_
                refine stepTr_K (by simp only [List.getElem?_toArray, List.getElem?_cons_zero, List.getElem?_cons_succ]; rfl) (by rfl) (fun K hK => ?_)
                refine wp_append_row _ (.tmp 25) (.tmp 39) _ rfl (gs + 1) 41 i0 _ 4 96 Try.underlying22 hi0 hz0 hz1 hz2 rfl (by omega) (.slice A2 k c2) k vss.flatten rfl (ow_below (ow_below HO.out HBo.out) HB_x17.out) _ _ 1 1 [.slice AB' nb cB', .slice AM' nm cM', .slice AA' na cA', .slice AP' nr cP'] rfl rfl HKL.out (one4 rfl rfl rfl rfl) (by simp only [maxLen]; omega) (by omega) (by have := HB_x17.out.size; omega) ?_
                intro q5 w5 o5 g5 t5
                obtain ⟨A5, c5, rfl⟩ := ow_slice (m := k + 1) o5 rfl
                have HOB := Lib.hid (ow_below (ow_below HO.out HBo.out) HB_x17.out)
                have hbn : ∀ x, (Value.slice A2 k c2).ownBlock = some x → x ≠ gs ∧ x < wr.heap.size := fun x hx => by
                  have h1 := own_lt HO.out x hx
                  exact ⟨by omega, h1.2.1⟩
                have hss := HB_x17.out.size
                have HKB5 : Hid (Blk w5 wr.heap.size 41 #[.slice Ab nb cb, .slice Am nm cm, .slice Aa na ca, .slice Ar nr cr]) := bk_grown (HKB.out.after HB_x17.out) g5 (fun e => by have := (hbn _ e.symm).2; omega)
                have HGS5 : Hid (Blk w5 gs 53 (strC none 0 0 0 A2 k c2 0 0 true)) := bk_grown ((HGS.out.after HBo.out).after HB_x17.out) g5 (fun e => (hbn _ e.symm).1 rfl)
                have HB5 : Hid (Below w.heap.size w w5) := ((HB.out.trans (HBo.out.mono hbs)).trans (HB_x17.out.mono (by have := HBo.out.size; omega))).grown g5 (by omega) (fun x hx => by have := own_base HOB.out x hx; omega)
                refine hK.out _ _ HKB5.out ?_
                clear hK K
                try simp only [Act.put, List.setIfInBounds_toArray, List.set_cons_zero, List.set_cons_succ]
                repeat (first
                  | (refine wpTr_fskip (by simp only [List.getElem?_toArray, List.getElem?_cons_zero, List.getElem?_cons_succ]; rfl) (by rfl) ?_
                     simp only [Act.put, List.setIfInBounds_toArray, List.set_cons_zero, List.set_cons_succ])
                  | (refine wpTr_float (v := ?_) (by simp only [List.getElem?_toArray, List.getElem?_cons_zero, List.getElem?_cons_succ]; rfl) (by rfl) (fun w' hS => ?_) ?_
                     rotate_left
                     ((skip); go_simp; first | done | rfl)
                     simp only [Act.put, List.setIfInBounds_toArray, List.set_cons_zero, List.set_cons_succ]))
                refine wpTr_one ?_
                refine stepTr_K (by simp only [List.getElem?_toArray, List.getElem?_cons_zero, List.getElem?_cons_succ]; rfl) (by rfl) (fun K hK => ?_)
                have y2 := HGS5.out.free 2
                have y1 := HGS5.out.cell 2
                have y3 := HGS5.out.lt
                have y4 : (strC none 0 0 0 A2 k c2 0 0 true)[2]? = some (.slice A2 k c2) := rfl
                rw [y4] at y1
                clear y4
                go_simp
                clear y1 y2 y3
                refine hK.out _ _ (HKB5.out.far (p := ⟨gs, 2, none⟩) (by have := HGS.out.lt; simp; omega) _) ?_
                clear hK K
                try simp only [Act.put, List.setIfInBounds_toArray, List.set_cons_zero, List.set_cons_succ]
                refine wpTr_done ?_
                have HB6 : Hid (Below w.heap.size w (w5.setCell ⟨gs, 2, none⟩ (.slice A5 (k + 1) c5))) := HB5.out.setCell (p := ⟨gs, 2, none⟩) hgw _
                have HGS6 : Hid (Blk (w5.setCell ⟨gs, 2, none⟩ (.slice A5 (k + 1) c5)) gs 53 (strC none 0 0 0 A5 (k + 1) c5 0 0 true)) := HGS5.out.set_ 2 _
                have HO6 : Hid ((w5.setCell ⟨gs, 2, none⟩ (.slice A5 (k + 1) c5)).ownsRow (gs + 1) 41 4 (.slice A5 (k + 1) c5) (k + 1) (vss ++ [[Value.slice AB' nb cB', Value.slice AM' nm cM', Value.slice AA' na cA', Value.slice AP' nr cP']]).flatten) := by
                  have := own_keepX o5 (w' := w5.setCell ⟨gs, 2, none⟩ (.slice A5 (k + 1) c5)) (fun x hx _ => Below.heap_setCell w5 ⟨gs, 2, none⟩ _ x (fun e => by have := own_base o5 x hx; simp at e; omega))
                  refine Lib.hid ?_
                  rw [List.flatten_append]
                  simpa using this
                have HC6 : Hid (CopR (w5.setCell ⟨gs, 2, none⟩ (.slice A5 (k + 1) c5)) gs (k + 1) (.slice A5 (k + 1) c5) rules (vss ++ [[Value.slice AB' nb cB', Value.slice AM' nm cM', Value.slice AA' na cA', Value.slice AP' nr cP']])) := by
                  have hsz : (w5.setCell ⟨gs, 2, none⟩ (.slice A5 (k + 1) c5)).heap.size = w5.heap.size := by simp
                  have hs5 := g5.size
                  have hwos := HBo.out.size
                  have hnew : ∀ b, b < x17.heap.size → (Value.slice A5 (k + 1) c5).ownBlock = some b → (Value.slice A2 k c2).ownBlock = some b := fun b hb h => by
                    rcases t5 with t | t
                    · rw [← t]; exact h
                    · rw [t] at h
                      injection h with h
                      omega
                  refine ⟨by simp [HC.out.len], fun cs hcs => ?_, fun j t hj ht => ?_⟩
                  · rcases List.mem_append.1 hcs with h | h
                    · exact HC.out.four cs h
                    · simp at h
                      subst h
                      rfl
                  · rcases Nat.lt_or_ge j k with h | h
                    · obtain ⟨cs, z1, z2⟩ := HC.out.done j t h ht
                      refine ⟨cs, by rw [List.getElem?_append_left (by rw [HC.out.len]; exact h)]; exact z1, ?_⟩
                      rw [hsz]
                      refine RuleAt.more (B := wr.heap.size) (z2.era_keep (fun b hb hx => ?_) (fun b hb hx => ?_)) (by omega)
                      · rw [Below.heap_setCell w5 ⟨gs, 2, none⟩ _ b (fun e => hx (.inl (by simp at e; omega))), g5.block b (by omega) (fun e => hx (.inr e.symm)), HB_x17.out.block b (by omega), HBo.out.block b hb]
                      · rcases hx with hx | hx
                        · exact .inl hx
                        · exact .inr (hnew b (by omega) hx)
                    · obtain rfl : j = k := by omega
                      rw [hx.out] at ht
                      cases ht
                      refine ⟨_, by rw [List.getElem?_append_right (by rw [HC.out.len]; exact Nat.le_refl _), HC.out.len, Nat.sub_self]; rfl, ?_⟩
                      rw [hsz]
                      have hkp : ∀ b, b < x17.heap.size → ¬ b < wo.heap.size → (w5.setCell ⟨gs, 2, none⟩ (.slice A5 (j + 1) c5)).heap[b]? = x17.heap[b]? := fun b hb hx => by
                        rw [Below.heap_setCell w5 ⟨gs, 2, none⟩ _ b (fun e => by simp at e; omega), g5.block b hb (fun e => by have := (hbn b e.symm).2; omega)]
                      have hep : ∀ b, b < x17.heap.size → (b ≤ gs ∨ (Value.slice A5 (j + 1) c5).ownBlock = some b) → b < wo.heap.size := fun b hb hx => by
                        rcases hx with hx | hx
                        · omega
                        · have := (hbn b (hnew b hb hx)).2
                          omega
                      refine ⟨AB', cB', AM', cM', AA', cA', AP', cP', by rw [HNB.out, HNM.out, HNA.out, HNR.out], ⟨(HXB_x17.out.era_keep hkp hep).more (by omega), (HXM_x17.out.era_keep hkp hep).more (by omega), (HXA_x17.out.era_keep hkp hep).more (by omega), (HXP_x17.out.era_keep hkp hep).more (by omega)⟩, by rw [HNB.out]; exact HZB.out, by rw [HNM.out]; exact HZM.out, by rw [HNA.out]; exact HZA.out, by rw [HNR.out]; exact HZP.out⟩
                clear o5 g5 t5
                go_wp2
                go_roundw
                case rel => exact ⟨k + 1, c5, A5, _, by omega, by go_num, HC6, HO6, HGS6, HB6⟩
                case measure => simp [intOf]; omega
              · refine stepTr_K (by simp only [List.getElem?_toArray, List.getElem?_cons_zero, List.getElem?_cons_succ]; rfl) (by rfl) (fun K hK => ?_)
                go_simp
                refine (HCP.out x15 HB_x15.out).mono ?_
                rintro e x18 ⟨AP', cP', rfl, z3, hb⟩
                have z4 := ow_row z3
                have HXP_x18 : Hid (Row (era x18 (· < wo.heap.size)) x18.heap.size AP' (prs r.res)) := z4.1.era_new (own_new z3) (fun b h => by have := HB_x15.out.size; omega)
                have HZP := Lib.hid z4.2
                have HXB_x18 := Lib.hid ((HXB_x15.out.era_keep (E' := (· < wo.heap.size)) (fun b h1 _ => hb.block b h1) (fun _ _ h => h)).more hb.size)
                have HXM_x18 := Lib.hid ((HXM_x15.out.era_keep (E' := (· < wo.heap.size)) (fun b h1 _ => hb.block b h1) (fun _ _ h => h)).more hb.size)
                have HXA_x18 := Lib.hid ((HXA_x15.out.era_keep (E' := (· < wo.heap.size)) (fun b h1 _ => hb.block b h1) (fun _ _ h => h)).more hb.size)
                have HB_x18 : Hid (Below wo.heap.size wo x18) := HB_x15.out.trans (hb.mono HB_x15.out.size)
                refine hK.out _ _ (HKB.out.after HB_x18.out) ?_
                clear hK K hb z3 z4
                try simp only [Act.put, List.setIfInBounds_toArray, List.set_cons_zero, List.set_cons_succ]
                repeat (first
                  | (refine wpTr_fskip (by simp only [List.getElem?_toArray, List.getElem?_cons_zero, List.getElem?_cons_succ]; rfl) (by rfl) ?_
                     simp only [Act.put, List.setIfInBounds_toArray, List.set_cons_zero, List.set_cons_succ])
                  | (refine wpTr_float (v := ?_) (by simp only [List.getElem?_toArray, List.getElem?_cons_zero, List.getElem?_cons_succ]; rfl) (by rfl) (fun w' hS => ?_) ?_
                     rotate_left
                     ((skip); go_simp; first | done | rfl)
                     simp only [Act.put, List.setIfInBounds_toArray, List.set_cons_zero, List.set_cons_succ]))
                refine wpTr_two ?_ ?_
                · refine stepTr_K (by simp only [List.getElem?_toArray, List.getElem?_cons_zero, List.getElem?_cons_succ]; rfl) (by rfl) (fun K hK => ?_)
                  have q0 := (HB_x18.out.cell (p := ⟨gs, 2, none⟩) hgo).trans s2
                  have q1 : gs < x18.heap.size := by have := HB_x18.out.size; omega
                  go_simp
                  clear q0 q1
                  refine hK.out _ _ (HKB.out.after HB_x18.out) ?_
                  clear hK K
                  try simp only [Act.put, List.setIfInBounds_toArray, List.set_cons_zero, List.set_cons_succ]
                  refine wpTr_one ?_
                  refine stepTr_K (by simp only [List.getElem?_toArray, List.getElem?_cons_zero, List.getElem?_cons_succ]; rfl) (by rfl) (fun K hK => ?_)
                  go_simp
                  obtain ⟨x19, hv, hb, HKL⟩ : ∃ v, v = x18.alloc (.cells #[.slice AB' nb cB', .slice AM' nm cM', .slice AA' na cA', .slice AP' nr cP'] 41) ∧ Below x18.heap.size x18 v ∧ Hid (Row v (x18.heap.size + 1) (some ⟨x18.heap.size, 0, none⟩) [.slice AB' nb cB', .slice AM' nm cM', .slice AA' na cA', .slice AP' nr cP']) := ⟨_, rfl, (Below.refl _ _).alloc (Nat.le_refl _) _, row_lit x18 _ _⟩
                  rw [← hv]
                  clear hv
                  obtain ⟨lb, hlb⟩ : ∃ x, x = x18.heap.size := ⟨_, rfl⟩
                  rw [← hlb] at HKL ⊢
                  clear hlb
                  have HXB_x19 := Lib.hid ((HXB_x18.out.era_keep (E' := (· < wo.heap.size)) (fun b h1 _ => hb.block b h1) (fun _ _ h => h)).more hb.size)
                  have HXM_x19 := Lib.hid ((HXM_x18.out.era_keep (E' := (· < wo.heap.size)) (fun b h1 _ => hb.block b h1) (fun _ _ h => h)).more hb.size)
                  have HXA_x19 := Lib.hid ((HXA_x18.out.era_keep (E' := (· < wo.heap.size)) (fun b h1 _ => hb.block b h1) (fun _ _ h => h)).more hb.size)
                  have HXP_x19 := Lib.hid ((HXP_x18.out.era_keep (E' := (· < wo.heap.size)) (fun b h1 _ => hb.block b h1) (fun _ _ h => h)).more hb.size)
                  have HB_x19 : Hid (Below wo.heap.size wo x19) := HB_x18.out.trans (hb.mono HB_x18.out.size)
                  refine hK.out _ _ (HKB.out.after HB_x19.out) ?_
                  clear hK K hb 
                  try simp only [Act.put, List.setIfInBounds_toArray, List.set_cons_zero, List.set_cons_succ]
                  refine wpTr_one ?_
                  refine stepTr_K (by simp only [List.getElem?_toArray, List.getElem?_cons_zero, List.getElem?_cons_succ]; rfl) (by rfl) (fun K hK => ?_)
                  refine wp_append_row _ (.tmp 25) (.tmp 39) _ rfl (gs + 1) 41 i0 _ 4 96 Try.underlying22 hi0 hz0 hz1 hz2 rfl (by omega) (.slice A2 k c2) k vss.flatten rfl (ow_below (ow_below HO.out HBo.out) HB_x19.out) _ _ 1 1 [.slice AB' nb cB', .slice AM' nm cM', .slice AA' na cA', .slice AP' nr cP'] rfl rfl HKL.out (one4 rfl rfl rfl rfl) (by simp only [maxLen]; omega) (by omega) (by have := HB_x19.out.size; omega) ?_
                  intro q5 w5 o5 g5 t5
                  obtain ⟨A5, c5, rfl⟩ := ow_slice (m := k + 1) o5 rfl
                  have HOB := Lib.hid (ow_below (ow_below HO.out HBo.out) HB_x19.out)
                  have hbn : ∀ x, (Value.slice A2 k c2).ownBlock = some x → x ≠ gs ∧ x < wr.heap.size := fun x hx => by
                    have h1 := own_lt HO.out x hx
                    exact ⟨by omega, h1.2.1⟩
                  have hss := HB_x19.out.size
                  have HKB5 : Hid (Blk w5 wr.heap.size 41 #[.slice Ab nb cb, .slice Am nm cm, .slice Aa na ca, .slice Ar nr cr]) := bk_grown (HKB.out.after HB_x19.out) g5 (fun e => by have := (hbn _ e.symm).2; omega)
                  have HGS5 : Hid (Blk w5 gs 53 (strC none 0 0 0 A2 k c2 0 0 true)) := bk_grown ((HGS.out.after HBo.out).after HB_x19.out) g5 (fun e => (hbn _ e.symm).1 rfl)
                  have HB5 : Hid (Below w.heap.size w w5) := ((HB.out.trans (HBo.out.mono hbs)).trans (HB_x19.out.mono (by have := HBo.out.size; omega))).grown g5 (by omega) (fun x hx => by have := own_base HOB.out x hx; omega)
                  refine hK.out _ _ HKB5.out ?_
                  clear hK K
                  try simp only [Act.put, List.setIfInBounds_toArray, List.set_cons_zero, List.set_cons_succ]
                  repeat (first
                    | (refine wpTr_fskip (by simp only [List.getElem?_toArray, List.getElem?_cons_zero, List.getElem?_cons_succ]; rfl) (by rfl) ?_
                       simp only [Act.put, List.setIfInBounds_toArray, List.set_cons_zero, List.set_cons_succ])
                    | (refine wpTr_float (v := ?_) (by simp only [List.getElem?_toArray, List.getElem?_cons_zero, List.getElem?_cons_succ]; rfl) (by rfl) (fun w' hS => ?_) ?_
                       rotate_left
                       ((skip); go_simp; first | done | rfl)
                       simp only [Act.put, List.setIfInBounds_toArray, List.set_cons_zero, List.set_cons_succ]))
                  refine wpTr_one ?_
                  refine stepTr_K (by simp only [List.getElem?_toArray, List.getElem?_cons_zero, List.getElem?_cons_succ]; rfl) (by rfl) (fun K hK => ?_)
                  have y2 := HGS5.out.free 2
                  have y1 := HGS5.out.cell 2
                  have y3 := HGS5.out.lt
                  have y4 : (strC none 0 0 0 A2 k c2 0 0 true)[2]? = some (.slice A2 k c2) := rfl
                  rw [y4] at y1
                  clear y4
                  go_simp
                  clear y1 y2 y3
                  refine hK.out _ _ (HKB5.out.far (p := ⟨gs, 2, none⟩) (by have := HGS.out.lt; simp; omega) _) ?_
                  clear hK K
                  try simp only [Act.put, List.setIfInBounds_toArray, List.set_cons_zero, List.set_cons_succ]
                  refine wpTr_done ?_
                  have HB6 : Hid (Below w.heap.size w (w5.setCell ⟨gs, 2, none⟩ (.slice A5 (k + 1) c5))) := HB5.out.setCell (p := ⟨gs, 2, none⟩) hgw _
                  have HGS6 : Hid (Blk (w5.setCell ⟨gs, 2, none⟩ (.slice A5 (k + 1) c5)) gs 53 (strC none 0 0 0 A5 (k + 1) c5 0 0 true)) := HGS5.out.set_ 2 _
                  have HO6 : Hid ((w5.setCell ⟨gs, 2, none⟩ (.slice A5 (k + 1) c5)).ownsRow (gs + 1) 41 4 (.slice A5 (k + 1) c5) (k + 1) (vss ++ [[Value.slice AB' nb cB', Value.slice AM' nm cM', Value.slice AA' na cA', Value.slice AP' nr cP']]).flatten) := by
                    have := own_keepX o5 (w' := w5.setCell ⟨gs, 2, none⟩ (.slice A5 (k + 1) c5)) (fun x hx _ => Below.heap_setCell w5 ⟨gs, 2, none⟩ _ x (fun e => by have := own_base o5 x hx; simp at e; omega))
                    refine Lib.hid ?_
                    rw [List.flatten_append]
                    simpa using this
                  have HC6 : Hid (CopR (w5.setCell ⟨gs, 2, none⟩ (.slice A5 (k + 1) c5)) gs (k + 1) (.slice A5 (k + 1) c5) rules (vss ++ [[Value.slice AB' nb cB', Value.slice AM' nm cM', Value.slice AA' na cA', Value.slice AP' nr cP']])) := by
                    have hsz : (w5.setCell ⟨gs, 2, none⟩ (.slice A5 (k + 1) c5)).heap.size = w5.heap.size := by simp
                    have hs5 := g5.size
                    have hwos := HBo.out.size
                    have hnew : ∀ b, b < x19.heap.size → (Value.slice A5 (k + 1) c5).ownBlock = some b → (Value.slice A2 k c2).ownBlock = some b := fun b hb h => by
                      rcases t5 with t | t
                      · rw [← t]; exact h
                      · rw [t] at h
                        injection h with h
                        omega
                    refine ⟨by simp [HC.out.len], fun cs hcs => ?_, fun j t hj ht => ?_⟩
                    · rcases List.mem_append.1 hcs with h | h
                      · exact HC.out.four cs h
                      · simp at h
                        subst h
                        rfl
                    · rcases Nat.lt_or_ge j k with h | h
                      · obtain ⟨cs, z1, z2⟩ := HC.out.done j t h ht
                        refine ⟨cs, by rw [List.getElem?_append_left (by rw [HC.out.len]; exact h)]; exact z1, ?_⟩
                        rw [hsz]
                        refine RuleAt.more (B := wr.heap.size) (z2.era_keep (fun b hb hx => ?_) (fun b hb hx => ?_)) (by omega)
                        · rw [Below.heap_setCell w5 ⟨gs, 2, none⟩ _ b (fun e => hx (.inl (by simp at e; omega))), g5.block b (by omega) (fun e => hx (.inr e.symm)), HB_x19.out.block b (by omega), HBo.out.block b hb]
                        · rcases hx with hx | hx
                          · exact .inl hx
                          · exact .inr (hnew b (by omega) hx)
                      · obtain rfl : j = k := by omega
                        rw [hx.out] at ht
                        cases ht
                        refine ⟨_, by rw [List.getElem?_append_right (by rw [HC.out.len]; exact Nat.le_refl _), HC.out.len, Nat.sub_self]; rfl, ?_⟩
                        rw [hsz]
                        have hkp : ∀ b, b < x19.heap.size → ¬ b < wo.heap.size → (w5.setCell ⟨gs, 2, none⟩ (.slice A5 (j + 1) c5)).heap[b]? = x19.heap[b]? := fun b hb hx => by
                          rw [Below.heap_setCell w5 ⟨gs, 2, none⟩ _ b (fun e => by simp at e; omega), g5.block b hb (fun e => by have := (hbn b e.symm).2; omega)]
                        have hep : ∀ b, b < x19.heap.size → (b ≤ gs ∨ (Value.slice A5 (j + 1) c5).ownBlock = some b) → b < wo.heap.size := fun b hb hx => by
                          rcases hx with hx | hx
                          · omega
                          · have := (hbn b (hnew b hb hx)).2
                            omega
                        refine ⟨AB', cB', AM', cM', AA', cA', AP', cP', by rw [HNB.out, HNM.out, HNA.out, HNR.out], ⟨(HXB_x19.out.era_keep hkp hep).more (by omega), (HXM_x19.out.era_keep hkp hep).more (by omega), (HXA_x19.out.era_keep hkp hep).more (by omega), (HXP_x19.out.era_keep hkp hep).more (by omega)⟩, by rw [HNB.out]; exact HZB.out, by rw [HNM.out]; exact HZM.out, by rw [HNA.out]; exact HZA.out, by rw [HNR.out]; exact HZP.out⟩
                  clear o5 g5 t5
                  go_wp2
                  go_roundw
                  case rel => exact ⟨k + 1, c5, A5, _, by omega, by go_num, HC6, HO6, HGS6, HB6⟩
                  case measure => simp [intOf]; omega
                · refine stepTr_K (by simp only [List.getElem?_toArray, List.getElem?_cons_zero, List.getElem?_cons_succ]; rfl) (by rfl) (fun K hK => ?_)
                  go_simp
                  obtain ⟨x20, hv, hb, HKL⟩ : ∃ v, v = x18.alloc (.cells #[.slice AB' nb cB', .slice AM' nm cM', .slice AA' na cA', .slice AP' nr cP'] 41) ∧ Below x18.heap.size x18 v ∧ Hid (Row v (x18.heap.size + 1) (some ⟨x18.heap.size, 0, none⟩) [.slice AB' nb cB', .slice AM' nm cM', .slice AA' na cA', .slice AP' nr cP']) := ⟨_, rfl, (Below.refl _ _).alloc (Nat.le_refl _) _, row_lit x18 _ _⟩
                  rw [← hv]
                  clear hv
                  obtain ⟨lb, hlb⟩ : ∃ x, x = x18.heap.size := ⟨_, rfl⟩
                  rw [← hlb] at HKL ⊢
                  clear hlb
                  have HXB_x20 := Lib.hid ((HXB_x18.out.era_keep (E' := (· < wo.heap.size)) (fun b h1 _ => hb.block b h1) (fun _ _ h => h)).more hb.size)
                  have HXM_x20 := Lib.hid ((HXM_x18.out.era_keep (E' := (· < wo.heap.size)) (fun b h1 _ => hb.block b h1) (fun _ _ h => h)).more hb.size)
                  have HXA_x20 := Lib.hid ((HXA_x18.out.era_keep (E' := (· < wo.heap.size)) (fun b h1 _ => hb.block b h1) (fun _ _ h => h)).more hb.size)
                  have HXP_x20 := Lib.hid ((HXP_x18.out.era_keep (E' := (· < wo.heap.size)) (fun b h1 _ => hb.block b h1) (fun _ _ h => h)).more hb.size)
                  have HB_x20 : Hid (Below wo.heap.size wo x20) := HB_x18.out.trans (hb.mono HB_x18.out.size)
                  refine hK.out _ _ (HKB.out.after HB_x20.out) ?_
                  clear hK K hb 
                  try simp only [Act.put, List.setIfInBounds_toArray, List.set_cons_zero, List.set_cons_succ]
                  refine wpTr_one ?_
                  refine stepTr_K (by simp only [List.getElem?_toArray, List.getElem?_cons_zero, List.getElem?_cons_succ]; rfl) (by rfl) (fun K hK => ?_)
                  have q0 := (HB_x20.out.cell (p := ⟨gs, 2, none⟩) hgo).trans s2
                  have q1 : gs < x20.heap.size := by have := HB_x20.out.size; omega
                  go_simp
                  clear q0 q1
                  refine hK.out _ _ (HKB.out.after HB_x20.out) ?_
                  clear hK K
                  try simp only [Act.put, List.setIfInBounds_toArray, List.set_cons_zero, List.set_cons_succ]
                  refine wpTr_one ?_
                  refine stepTr_K (by simp only [List.getElem?_toArray, List.getElem?_cons_zero, List.getElem?_cons_succ]; rfl) (by rfl) (fun K hK => ?_)
                  refine wp_append_row _ (.tmp 25) (.tmp 39) _ rfl (gs + 1) 41 i0 _ 4 96 Try.underlying22 hi0 hz0 hz1 hz2 rfl (by omega) (.slice A2 k c2) k vss.flatten rfl (ow_below (ow_below HO.out HBo.out) HB_x20.out) _ _ 1 1 [.slice AB' nb cB', .slice AM' nm cM', .slice AA' na cA', .slice AP' nr cP'] rfl rfl HKL.out (one4 rfl rfl rfl rfl) (by simp only [maxLen]; omega) (by omega) (by have := HB_x20.out.size; omega) ?_
                  intro q5 w5 o5 g5 t5
                  obtain ⟨A5, c5, rfl⟩ := ow_slice (m := k + 1) o5 rfl
                  have HOB := Lib.hid (ow_below (ow_below HO.out HBo.out) HB_x20.out)
                  have hbn : ∀ x, (Value.slice A2 k c2).ownBlock = some x → x ≠ gs ∧ x < wr.heap.size := fun x hx => by
                    have h1 := own_lt HO.out x hx
                    exact ⟨by omega, h1.2.1⟩
                  have hss := HB_x20.out.size
                  have HKB5 : Hid (Blk w5 wr.heap.size 41 #[.slice Ab nb cb, .slice Am nm cm, .slice Aa na ca, .slice Ar nr cr]) := bk_grown (HKB.out.after HB_x20.out) g5 (fun e => by have := (hbn _ e.symm).2; omega)
                  have HGS5 : Hid (Blk w5 gs 53 (strC none 0 0 0 A2 k c2 0 0 true)) := bk_grown ((HGS.out.after HBo.out).after HB_x20.out) g5 (fun e => (hbn _ e.symm).1 rfl)
                  have HB5 : Hid (Below w.heap.size w w5) := ((HB.out.trans (HBo.out.mono hbs)).trans (HB_x20.out.mono (by have := HBo.out.size; omega))).grown g5 (by omega) (fun x hx => by have := own_base HOB.out x hx; omega)
                  refine hK.out _ _ HKB5.out ?_
                  clear hK K
                  try simp only [Act.put, List.setIfInBounds_toArray, List.set_cons_zero, List.set_cons_succ]
                  repeat (first
                    | (refine wpTr_fskip (by simp only [List.getElem?_toArray, List.getElem?_cons_zero, List.getElem?_cons_succ]; rfl) (by rfl) ?_
                       simp only [Act.put, List.setIfInBounds_toArray, List.set_cons_zero, List.set_cons_succ])
                    | (refine wpTr_float (v := ?_) (by simp only [List.getElem?_toArray, List.getElem?_cons_zero, List.getElem?_cons_succ]; rfl) (by rfl) (fun w' hS => ?_) ?_
                       rotate_left
                       ((skip); go_simp; first | done | rfl)
                       simp only [Act.put, List.setIfInBounds_toArray, List.set_cons_zero, List.set_cons_succ]))
                  refine wpTr_one ?_
                  refine stepTr_K (by simp only [List.getElem?_toArray, List.getElem?_cons_zero, List.getElem?_cons_succ]; rfl) (by rfl) (fun K hK => ?_)
                  have y2 := HGS5.out.free 2
                  have y1 := HGS5.out.cell 2
                  have y3 := HGS5.out.lt
                  have y4 : (strC none 0 0 0 A2 k c2 0 0 true)[2]? = some (.slice A2 k c2) := rfl
                  rw [y4] at y1
                  clear y4
                  go_simp
                  clear y1 y2 y3
                  refine hK.out _ _ (HKB5.out.far (p := ⟨gs, 2, none⟩) (by have := HGS.out.lt; simp; omega) _) ?_
                  clear hK K
                  try simp only [Act.put, List.setIfInBounds_toArray, List.set_cons_zero, List.set_cons_succ]
                  refine wpTr_done ?_
                  have HB6 : Hid (Below w.heap.size w (w5.setCell ⟨gs, 2, none⟩ (.slice A5 (k + 1) c5))) := HB5.out.setCell (p := ⟨gs, 2, none⟩) hgw _
                  have HGS6 : Hid (Blk (w5.setCell ⟨gs, 2, none⟩ (.slice A5 (k + 1) c5)) gs 53 (strC none 0 0 0 A5 (k + 1) c5 0 0 true)) := HGS5.out.set_ 2 _
                  have HO6 : Hid ((w5.setCell ⟨gs, 2, none⟩ (.slice A5 (k + 1) c5)).ownsRow (gs + 1) 41 4 (.slice A5 (k + 1) c5) (k + 1) (vss ++ [[Value.slice AB' nb cB', Value.slice AM' nm cM', Value.slice AA' na cA', Value.slice AP' nr cP']]).flatten) := by
                    have := own_keepX o5 (w' := w5.setCell ⟨gs, 2, none⟩ (.slice A5 (k + 1) c5)) (fun x hx _ => Below.heap_setCell w5 ⟨gs, 2, none⟩ _ x (fun e => by have := own_base o5 x hx; simp at e; omega))
                    refine Lib.hid ?_
                    rw [List.flatten_append]
                    simpa using this
                  have HC6 : Hid (CopR (w5.setCell ⟨gs, 2, none⟩ (.slice A5 (k + 1) c5)) gs (k + 1) (.slice A5 (k + 1) c5) rules (vss ++ [[Value.slice AB' nb cB', Value.slice AM' nm cM', Value.slice AA' na cA', Value.slice AP' nr cP']])) := by
                    have hsz : (w5.setCell ⟨gs, 2, none⟩ (.slice A5 (k + 1) c5)).heap.size = w5.heap.size := by simp
                    have hs5 := g5.size
                    have hwos := HBo.out.size
                    have hnew : ∀ b, b < x20.heap.size → (Value.slice A5 (k + 1) c5).ownBlock = some b → (Value.slice A2 k c2).ownBlock = some b := fun b hb h => by
                      rcases t5 with t | t
                      · rw [← t]; exact h
                      · rw [t] at h
                        injection h with h
                        omega
                    refine ⟨by simp [HC.out.len], fun cs hcs => ?_, fun j t hj ht => ?_⟩
                    · rcases List.mem_append.1 hcs with h | h
                      · exact HC.out.four cs h
                      · simp at h
                        subst h
                        rfl
                    · rcases Nat.lt_or_ge j k with h | h
                      · obtain ⟨cs, z1, z2⟩ := HC.out.done j t h ht
                        refine ⟨cs, by rw [List.getElem?_append_left (by rw [HC.out.len]; exact h)]; exact z1, ?_⟩
                        rw [hsz]
                        refine RuleAt.more (B := wr.heap.size) (z2.era_keep (fun b hb hx => ?_) (fun b hb hx => ?_)) (by omega)
                        · rw [Below.heap_setCell w5 ⟨gs, 2, none⟩ _ b (fun e => hx (.inl (by simp at e; omega))), g5.block b (by omega) (fun e => hx (.inr e.symm)), HB_x20.out.block b (by omega), HBo.out.block b hb]
                        · rcases hx with hx | hx
                          · exact .inl hx
                          · exact .inr (hnew b (by omega) hx)
                      · obtain rfl : j = k := by omega
                        rw [hx.out] at ht
                        cases ht
                        refine ⟨_, by rw [List.getElem?_append_right (by rw [HC.out.len]; exact Nat.le_refl _), HC.out.len, Nat.sub_self]; rfl, ?_⟩
                        rw [hsz]
                        have hkp : ∀ b, b < x20.heap.size → ¬ b < wo.heap.size → (w5.setCell ⟨gs, 2, none⟩ (.slice A5 (j + 1) c5)).heap[b]? = x20.heap[b]? := fun b hb hx => by
                          rw [Below.heap_setCell w5 ⟨gs, 2, none⟩ _ b (fun e => by simp at e; omega), g5.block b hb (fun e => by have := (hbn b e.symm).2; omega)]
                        have hep : ∀ b, b < x20.heap.size → (b ≤ gs ∨ (Value.slice A5 (j + 1) c5).ownBlock = some b) → b < wo.heap.size := fun b hb hx => by
                          rcases hx with hx | hx
                          · omega
                          · have := (hbn b (hnew b hb hx)).2
                            omega
                        refine ⟨AB', cB', AM', cM', AA', cA', AP', cP', by rw [HNB.out, HNM.out, HNA.out, HNR.out], ⟨(HXB_x20.out.era_keep hkp hep).more (by omega), (HXM_x20.out.era_keep hkp hep).more (by omega), (HXA_x20.out.era_keep hkp hep).more (by omega), (HXP_x20.out.era_keep hkp hep).more (by omega)⟩, by rw [HNB.out]; exact HZB.out, by rw [HNM.out]; exact HZM.out, by rw [HNA.out]; exact HZA.out, by rw [HNR.out]; exact HZP.out⟩
                  clear o5 g5 t5
                  go_wp2
                  go_roundw
                  case rel => exact ⟨k + 1, c5, A5, _, by omega, by go_num, HC6, HO6, HGS6, HB6⟩
                  case measure => simp [intOf]; omega
      · obtain rfl : n = k := by omega
        obtain ⟨hr, hc1, hc2⟩ := ow_row HO.out
        have HRR := Lib.hid (hr.era_new (own_new HO.out) (fun b (h : b ≤ gs) => by omega))
        have HRL : Hid (RulesAt (era wr (· ≤ gs)) wr.heap.size A2 rules) := ⟨vss, by rw [HC.out.len, HN.out], HC.out.four, HRR.out, fun j t ht => by
          obtain ⟨cs, q1, q2⟩ := HC.out.done j t (by have := (List.getElem?_eq_some_iff.1 ht).1; rw [HN.out] at this; exact this) ht
          exact ⟨cs, q1, q2.era_keep (fun _ _ _ => rfl) (fun b _ h => .inl h)⟩⟩
        have HCC := Lib.hid (And.intro hc1 hc2)
        have HRC := pReach_any A c rules wr (HR.out.below HB.out).lt HS.out HLC.out.1 HLC.out.2 (by rw [HN.out]; omega) bf ah HBF.out HAH.out
        rw [HN.out] at HRC
        replace HRC := Lib.hid HRC
        clear hr hc1 hc2
        go_wp2_with fail
        refine HRC.out.mono ?_
        rintro e w3 ⟨rfl, hb3⟩
        have hs3 := hb3.size
        have HG3 := Lib.hid (HGS.out.after hb3)
        have HB3 := Lib.hid (HB.out.trans (hb3.mono hbs))
        have HRL3 : Hid (RulesAt (era w3 (· ≤ gs)) wr.heap.size A2 rules) := HRL.out.era_keep (fun b h _ => hb3.block b h) (fun _ _ h => h)
        have e2 := HG3.out.cell 3
        have e3 := HG3.out.cell 4
        have f2 := HG3.out.free 3
        have f3 := HG3.out.free 4
        have hl3 := HG3.out.lt
        have hgl := HGS.out.lt
        have y4 : (strC none 0 0 0 A2 n c2 0 0 true)[3]? = some (.int .i64 0) := rfl
        have y5 : (strC none 0 0 0 A2 n c2 0 0 true)[4]? = some (.int .i64 0) := rfl
        rw [y4] at e2
        rw [y5] at e3
        clear hb3 y4 y5
        have k1 : max (ah : Int) 1 = ((max ah 1 : Nat) : Int) := by omega
        obtain ⟨m, hm⟩ : ∃ m, max ah 1 = m := ⟨_, rfl⟩
        rw [hm] at k1
        have HMX := Lib.hid hm
        clear hm
        go_wp2
        go_ret2
        refine ⟨?_, .inr ⟨H0.out, gs, wr.heap.size, c2, A2, rfl, hgw, hgl, ?_, ?_, HCC.out.2, ?_, ?_⟩⟩
        · exact ((HB3.out.setCell (p := ⟨gs, 3, none⟩) hgw _).setCell (p := ⟨gs, 4, none⟩) hgw _).setCell (p := ⟨gs, 4, none⟩) hgw _
        · simpa using hs3
        · rw [HN.out]
          exact HCC.out.1
        · rw [HN.out, HBF'.out, HAH'.out, HMX.out]
          exact ((HG3.out.set_ 3 _).set_ 4 _).set_ 4 _
        · refine HRL3.out.era_keep (fun b hb hx => ?_) (fun _ _ h => h)
          have hne : b ≠ gs := fun e => hx (by omega)
          rw [Below.heap_setCell _ ⟨gs, 4, none⟩ _ b hne, Below.heap_setCell _ ⟨gs, 4, none⟩ _ b hne, Below.heap_setCell _ ⟨gs, 3, none⟩ _ b hne]
end Go.Proofs.Ytjohoohdjlajcaa
