/-
  seqpool.Pack, Get, Find; ref14.Few, Small, Same: walks.
-/
import Derived.Test.YteobffcnfigilaaProg
import Derived.Test.YteobffcnfigilaaBase
import Derived.Test.YteobffcnfigilaaApp
import Derived.Test.YteobffcnfigilaaLst
import Derived.Test.YteobffcnfigilaaSp0
import Derived.Test.YteobffcnfigilaaSp1
import Derived.Test.YteobffcnfigilaaSp2
import Derived.Test.YteobffcnfigilaaSp3
import Derived.Test.YteobffcnfigilaaCp4
import Derived.Test.YteobffcnfigilaaRef1
import Derived.WalkKit
import Derived.KernelRfl
import Derived.Outline
namespace Go.Proofs.Yteobffcnfigilaa
open Go.RowKit Go.UtYteobffcnfigilaa
attribute [local go_sem high] cut_l cut_lh cut_lhm cutA_zero
attribute [local go_sem 500] cut_any
theorem pack_snoc {l : List (List Int)} {k : Nat} {xs : List Int} (h : l[k]? = some xs) : add14 (pack14 (l.take k)) xs = pack14 (l.take (k + 1)) := by
  obtain ⟨hk, rfl⟩ := List.getElem?_eq_some_iff.1 h
  unfold pack14
  rw [List.take_succ_eq_append_getElem hk, List.foldl_append]
  rfl
theorem pack_len (l : List (List Int)) (h : ∀ xs ∈ l, xs.length ≤ 20) : (pack14 l).C.length ≤ 20 * l.length ∧ (pack14 l).S.length = l.length ∧ (pack14 l).L.length = l.length := by
  have H : ∀ (l : List (List Int)) (p : Pl), (∀ xs ∈ l, xs.length ≤ 20) → (l.foldl add14 p).C.length ≤ p.C.length + 20 * l.length ∧ (l.foldl add14 p).S.length = p.S.length + l.length ∧ (l.foldl add14 p).L.length = p.L.length + l.length := by
    intro l
    induction l with
    | nil => intro p _; simp
    | cons x l ih =>
      intro p h
      obtain ⟨a, b, c⟩ := ih (add14 p x) (fun xs hx => h xs (by simp [hx]))
      have h1 : (add14 p x).C.length ≤ p.C.length + x.length := (put_len p.C x).2.1
      have h2 : x.length ≤ 20 := h x (by simp)
      have h3 : (add14 p x).S.length = p.S.length + 1 := by simp [add14]
      have h4 : (add14 p x).L.length = p.L.length + 1 := by simp [add14]
      rw [List.foldl_cons, List.length_cons]
      refine ⟨by omega, by omega, by omega⟩
  have := H l Pl.nil h
  simpa [Pl.nil, pack14] using this
theorem small_any (C S L : Option Addr) (nC nS nL cC cS cL : Nat) (w : World) (v : Bool) (hv : decide (nC ≤ 200 ∧ nS ≤ 40 ∧ nL ≤ 40) = v) :
    Calls Try.prog 16 #[.agg #[.slice C nC cC, .slice S nS cS, .slice L nL cL]] w fun e w' => e = .returned (.bool v) ∧ Below w.heap.size w w' := by
  have HV := Lib.hid hv
  clear hv
  go_enter Try.func16, Try.ntmps16
  go_wp2
  all_goals (go_ret; refine ⟨ret_bool ?_, (Below.refl _ _).alloc (Nat.le_refl _) _⟩; rw [← HV.out])
  all_goals first | (simp; done) | (simp; omega) | (rw [Bool.eq_iff_iff]; simp; omega)
def fewB (l : List (List Int)) : Bool := (l.take 20).all (fun x => decide (x.length ≤ 20)) && decide (l.length ≤ 12)
theorem few_of {l : List (List Int)} (h : fewB l = true) : l.length ≤ 12 ∧ ∀ xs ∈ l, xs.length ≤ 20 := by
  simp only [fewB, Bool.and_eq_true, decide_eq_true_eq, List.all_eq_true] at h
  refine ⟨h.2, fun xs hx => ?_⟩
  rw [List.take_of_length_le (by omega)] at h
  exact h.1 xs hx
theorem few_bad {l : List (List Int)} {k : Nat} {xs : List Int} (h : l[k]? = some xs) (hk : k < 20) (hx : 20 < xs.length) : fewB l = false := by
  cases hf : fewB l with
  | false => rfl
  | true =>
    simp only [fewB, Bool.and_eq_true, decide_eq_true_eq, List.all_eq_true] at hf
    have : xs ∈ l.take 20 := List.mem_of_getElem? (i := k) (by rw [List.getElem?_take, if_pos hk]; exact h)
    have := hf.1 xs this
    omega
theorem few_end {l : List (List Int)} {k : Nat} (hk : k = l.length ∨ 20 ≤ k) (h : ∀ j xs, j < k → l[j]? = some xs → xs.length ≤ 20) : fewB l = decide (l.length ≤ 12) := by
  unfold fewB
  have : (l.take 20).all (fun x => decide (x.length ≤ 20)) = true := by
    rw [List.all_eq_true]
    intro xs hx
    obtain ⟨j, hj⟩ := List.getElem?_of_mem hx
    have hj2 : j < (l.take 20).length := (List.getElem?_eq_some_iff.1 hj).1
    simp at hj2
    rw [List.getElem?_take, if_pos (by omega)] at hj
    simpa using h j xs (by omega) hj
  rw [this, Bool.true_and]
set_option maxHeartbeats 1000000 in
theorem few_any (A : Option Addr) (c B : Nat) (l : List (List Int)) (w : World) (hR : Rows2 w B A l) (hm : l.length ≤ maxLen) (v : Bool) (hv : fewB l = v) :
    Calls Try.prog 11 #[.slice A l.length c] w fun e w' => e = .returned (.bool v) ∧ w = w' := by
  have HV := Lib.hid hv
  have HR := Lib.hid hR
  unfold maxLen at hm
  clear hv hR
  go_enter Try.func11, Try.ntmps11
  go_wp2
  go_loop [3] (fun i => ∃ k : Nat, k ≤ l.length ∧ k ≤ 20 ∧ i = .int .i64 k ∧ Hid (∀ j xs, j < k → l[j]? = some xs → xs.length ≤ 20)) (fun i => 20 - (intOf i).toNat)
  case atStart => exact ⟨0, by omega, by omega, rfl, fun j xs hj => by omega⟩
  case round =>
    obtain ⟨k, hk, hk2, rfl, HK⟩ := hrel
    by_cases h1 : k < l.length
    · by_cases h2 : k < 20
      · obtain ⟨b, o, A', c', xs, rfl, hb, hx, hc, l1, l2, _⟩ := HR.out.at_ h1
        by_cases h3 : 20 < xs.length
        · have HF : Hid (v = false) := HV.out.symm.trans (few_bad hx.out h2 h3)
          go_wp2
          go_ret
          exact ⟨ret_bool HF.out.symm, rfl⟩
        · have HM : Hid (∀ j ys, j < k + 1 → l[j]? = some ys → ys.length ≤ 20) := fun j ys hj hy => by
            rcases Nat.lt_succ_iff_lt_or_eq.1 hj with h | rfl
            · exact HK.out j ys h hy
            · rw [hx.out] at hy
              injection hy with hy
              subst hy
              omega
          go_wp2
          go_round
          case rel => exact ⟨k + 1, by omega, by omega, by go_num, HM⟩
          case measure => simp [intOf]; omega
      · have HF := Lib.hid (HV.out.symm.trans (few_end (.inr (by omega)) HK.out))
        go_wp2
        go_ret
        exact ⟨ret_bool (by rw [HF.out]; simp; omega), rfl⟩
    · have HF := Lib.hid (HV.out.symm.trans (few_end (.inl (by omega)) HK.out))
      go_wp2
      go_ret
      exact ⟨ret_bool (by rw [HF.out]; simp; omega), rfl⟩
/-- what Pack's loop keeps -/
def PkRel (w wr : World) (p : Pl) : Prop :=
  ∃ A1 c1 A2 c2 A3 c3, Blk wr (w.heap.size + 1) 27 #[.slice A1 p.C.length c1, .slice A2 p.S.length c2, .slice A3 p.L.length c3] ∧ PlAt wr wr.heap.size A1 c1 A2 c2 A3 c3 p ∧
    Blk wr w.heap.size 27 #[.slice none 0 0, .slice none 0 0, .slice none 0 0] ∧ Below w.heap.size w wr
theorem PlAt.nil {w : World} {B : Nat} : PlAt w B none 0 none 0 none 0 Pl.nil := ⟨by simp [Pl.nil], by simp [maxLen], Row.nil, by simp [Pl.nil], by simp [maxLen], Row.nil, by simp [Pl.nil], by simp [maxLen], Row.nil⟩
theorem PlAt.apart3 {w : World} {g : Nat} {A1 A2 A3 : Option Addr} {c1 c2 c3 : Nat} {p : Pl} {T : TypeId} {v1 v2 v3 : Option Addr} {n1 n2 n3 d1 d2 d3 : Nat} (h : PlAt w w.heap.size A1 c1 A2 c2 A3 c3 p) (hb : Blk w g T #[.slice v1 n1 d1, .slice v2 n2 d2, .slice v3 n3 d3]) (a b c : Value) :
    PlAt (((w.setCell ⟨g, 0, none⟩ a).setCell ⟨g, 1, none⟩ b).setCell ⟨g, 2, none⟩ c) (((w.setCell ⟨g, 0, none⟩ a).setCell ⟨g, 1, none⟩ b).setCell ⟨g, 2, none⟩ c).heap.size A1 c1 A2 c2 A3 c3 p :=
  ⟨h.l1, h.m1, by rw [size3]; exact Row.apart3 h.r1 hb _ _ _, h.l2, h.m2, by rw [size3]; exact Row.apart3 h.r2 hb _ _ _, h.l3, h.m3, by rw [size3]; exact Row.apart3 h.r3 hb _ _ _⟩
theorem Blk.set3 {w : World} {g : Nat} {t : TypeId} {x y z a b c : Value} (h : Blk w g t #[x, y, z]) : Blk (((w.setCell ⟨g, 0, none⟩ a).setCell ⟨g, 1, none⟩ b).setCell ⟨g, 2, none⟩ c) g t #[a, b, c] :=
  ((h.set_ 0 a).set_ 1 b).set_ 2 c
set_option maxHeartbeats 2000000 in
theorem pack_gen (A : Option Addr) (c : Nat) (l : List (List Int)) (w : World) (hR : Rows2 w w.heap.size A l) (hm : l.length ≤ 13) (h20 : ∀ xs ∈ l, xs.length ≤ 20) :
    Calls Try.prog 13 #[.slice A l.length c] w (RetPool w (pack14 l)) := by
  have HR := Lib.hid hR
  have H20 := Lib.hid h20
  clear hR h20
  go_enter Try.func13, Try.ntmps13
  go_wp2
  go_loopw [8] (fun i wr => ∃ k : Nat, k ≤ l.length ∧ i = .int .i64 k ∧ Hid (PkRel w wr (pack14 (l.take k)))) (fun i _ => l.length - (intOf i).toNat)
  case atStart => exact ⟨0, by omega, rfl, none, 0, none, 0, none, 0, Blk.at_new (by simp), PlAt.nil, (Blk.new _ _ _).alloc _, ((Below.refl _ _).alloc (Nat.le_refl _) _).alloc (by simp) _⟩
  case round =>
    obtain ⟨k, hk, rfl, HK⟩ := hrel
    by_cases h1 : k < l.length
    · obtain ⟨p, hp⟩ : ∃ p, pack14 (l.take k) = p := ⟨_, rfl⟩
      have hsz := pack_len (l.take k) (fun xs hx => H20.out xs (List.mem_of_mem_take hx))
      rw [hp, List.length_take_of_le (by omega)] at hsz
      obtain ⟨z1, z2, z3⟩ := hsz
      have z2' : p.S.length ≤ 12 := by omega
      have z3' : p.L.length ≤ 12 := by omega
      rw [hp] at HK
      obtain ⟨A1, c1, A2, c2, A3, c3, q1, q2, q3, q4⟩ := HK.out
      obtain ⟨b, o, A', c', xs, rfl, hb, hx, hc, l1, l2, hr⟩ := (HR.out.below q4).lt.at_ h1
      have h20 : xs.length ≤ 20 := H20.out xs (List.mem_of_getElem? hx.out)
      obtain ⟨p2, hp2⟩ : ∃ p2, pack14 (l.take (k + 1)) = p2 := ⟨_, rfl⟩
      have HE : Hid (add14 p xs = p2) := by rw [← hp, ← hp2]; exact pack_snoc hx.out
      have HP2 := Lib.hid hp2
      have HQ1 := Lib.hid q1
      have HQ2 := Lib.hid q2
      have HQ3 := Lib.hid q3
      have HQ4 := Lib.hid q4
      have HRR := Lib.hid hr
      obtain ⟨e0, e1, e2⟩ := q1.cells3
      have hlt := q1.lt
      clear hp hp2 HK z2 z3 q1 q2 q3 q4 hr
      go_wp2_with fail
      refine (add_any A1 A2 A3 A' c1 c2 c3 c' _ p xs _ HQ2.out HRR.out (Nat.le_refl _) l1 l2 (by omega) (by omega) (by omega)).mono ?_
      rintro e w2 ⟨B1, d1, B2, d2, B3, d3, rfl, g1, g2⟩
      rw [HE.out] at g1 ⊢
      have G1 := Lib.hid g1
      have HY := Lib.hid (HQ1.out.after g2)
      have HX := Lib.hid (HQ3.out.after g2)
      have HB := Lib.hid (below_then HQ4.out g2 (Nat.le_refl _))
      obtain ⟨y0, y1, y2⟩ := HY.out.cells3
      obtain ⟨f0, f1, f2⟩ := HY.out.free3
      have hly := HY.out.lt
      clear g1 g2 HQ1 HQ2 HQ3 HQ4 e0 e1 e2
      go_wp2
      go_roundw
      case rel =>
        refine ⟨k + 1, by omega, by go_num, ?_⟩
        rw [HP2.out]
        exact ⟨B1, d1, B2, d2, B3, d3, Blk.set3 HY.out, PlAt.apart3 G1.out HY.out _ _ _, HX.out.far3 (by omega) _ _ _, below_set3 HB.out (by omega) _ _ _⟩
      case measure => simp [intOf]; omega
    · rw [List.take_of_length_le (by omega)] at HK
      obtain ⟨A1, c1, A2, c2, A3, c3, q1, q2, q3, q4⟩ := HK.out
      have HQ1 := Lib.hid q1
      have HQ2 := Lib.hid q2
      have HQ3 := Lib.hid q3
      have HQ4 := Lib.hid q4
      obtain ⟨e0, e1, e2⟩ := q1.cells3
      obtain ⟨y0, y1, y2⟩ := q3.cells3
      obtain ⟨f0, f1, f2⟩ := q3.free3
      have hlt := q1.lt
      have hlt3 := q3.lt
      clear HK q1 q2 q3 q4
      go_wp2
      obtain ⟨q0, q1, q2⟩ := (Blk.set3 (a := .slice A1 (pack14 l).C.length c1) (b := .slice A2 (pack14 l).S.length c2) (c := .slice A3 (pack14 l).L.length c3) HQ3.out).cells3
      refine bodyPost_ret (v := .agg #[.slice A1 (pack14 l).C.length c1, .slice A2 (pack14 l).S.length c2, .slice A3 (pack14 l).L.length c3]) (by simp [results, Try.results13, go_sem, q0, q1, q2]) rfl ?_
      exact ⟨A1, c1, A2, c2, A3, c3, rfl, PlAt.apart3 HQ2.out HQ3.out _ _ _, below_set3 HQ4.out (by omega) _ _ _⟩
theorem pack_any (A : Option Addr) (c : Nat) (l : List (List Int)) (w : World) (hR : Rows2 w w.heap.size A l) (hf : fewB l = true) :
    Calls Try.prog 13 #[.slice A l.length c] w (RetPool w (pack14 l)) := pack_gen A c l w hR (by have := (few_of hf).1; omega) (few_of hf).2
/-- get: a list and whether there is one -/
def RetIB (w : World) (xs : List Int) (b : Bool) (e : Ending) (w' : World) : Prop :=
  ∃ A c, e = .returned (.tuple #[.slice A xs.length c, .bool b]) ∧ xs.length ≤ c ∧ c ≤ maxLen ∧ Row w' w'.heap.size A (ints xs) ∧ Below w.heap.size w w'
/-- a pool's sizes -/
def Fine (p : Pl) : Prop := p.C.length ≤ 60000 ∧ p.S.length ≤ 60000 ∧ p.L.length ≤ 60000
theorem vld_at {p : Pl} (h : vld14 p = true) {k : Nat} (hk : k < p.S.length) : ∃ s l : Nat, p.S[k]? = some (s : Int) ∧ p.L[k]? = some (l : Int) ∧ s + l ≤ p.C.length ∧ seqAt p k = (p.C.drop s).take l := by
  obtain ⟨h1, h2⟩ := (vldP_iff _ _ _).1 h
  have h3 := okJ_yes (h2 k hk)
  have e1 : p.S[k]? = some (p.S.getD k 0) := by simp [List.getD, hk]
  have e2 : p.L[k]? = some (p.L.getD k 0) := by simp [List.getD, show k < p.L.length by omega]
  generalize p.S.getD k 0 = x at e1 h3
  generalize p.L.getD k 0 = y at e2 h3
  obtain ⟨s, rfl⟩ := Int.eq_ofNat_of_zero_le h3.1
  obtain ⟨l, rfl⟩ := Int.eq_ofNat_of_zero_le h3.2.1
  refine ⟨s, l, e1, e2, by omega, ?_⟩
  unfold seqAt
  rw [getD_of e1, getD_of e2]
  rfl
theorem copied_n (A1 : Option Addr) (n1 c1 B : Nat) (xs : List Int) (w : World) (h1 : Row w B A1 (ints xs)) (e1 : xs.length = n1) (hB : B ≤ w.heap.size) (hl : n1 ≤ 65536) :
    Calls Try.prog 27 #[.slice A1 n1 c1] w (RetI w xs) := by
  subst e1
  exact copied_any A1 c1 B xs w h1 hB hl
theorem sequence_p (C S L : Option Addr) (cC cS cL : Nat) (p : Pl) (w : World) (hp : PlAt w w.heap.size C cC S cS L cL p) (hv : vld14 p = true) (k : Nat) (hk : k < p.S.length) :
    Calls Try.prog 29 #[.agg #[.slice C p.C.length cC, .slice S p.S.length cS, .slice L p.L.length cL], .int .i64 (k : Int)] w (RetI w (seqAt p k)) := by
  obtain ⟨s, l, e1, e2, e3, e4⟩ := vld_at hv hk
  rw [e4]
  exact sequence_any C S L cC cS cL _ p.C p.S p.L w hp.r1 hp.r2 hp.r3 (Nat.le_refl _) hp.l1 hp.m1 k s l e1 e2 e3
theorem seqAt_len {p : Pl} {k : Nat} : (seqAt p k).length ≤ p.C.length := by
  unfold seqAt
  simp
  omega
theorem vld_calls (C S L : Option Addr) (cC cS cL : Nat) (p : Pl) (w : World) (hp : PlAt w w.heap.size C cC S cS L cL p) (hf : Fine p) (v : Bool) (hv : vld14 p = v) :
    Calls Try.prog 24 #[.agg #[.slice C p.C.length cC, .slice S p.S.length cS, .slice L p.L.length cL]] w fun e w' => e = .returned (.bool v) ∧ Below w.heap.size w w' := by
  obtain ⟨f1, f2, f3⟩ := hf
  exact valid_any C S L cC cS cL _ _ p.S p.L w hp.r2 hp.r3 (Nat.le_refl _) (by omega) (Nat.le_trans hp.l2 hp.m2) (Nat.le_trans hp.l3 hp.m3) v hv
set_option maxHeartbeats 2000000 in
theorem get_any (C S L : Option Addr) (cC cS cL : Nat) (p : Pl) (i : Int) (w : World) (hp : PlAt w w.heap.size C cC S cS L cL p) (hf : Fine p) (xs : List Int) (b : Bool) (hg : get14 p i = (xs, b)) :
    Calls Try.prog 22 #[.agg #[.slice C p.C.length cC, .slice S p.S.length cS, .slice L p.L.length cL], .int .i64 i] w (RetIB w xs b) := by
  have HG := Lib.hid hg
  have HF := Lib.hid hf
  have HB0 : Hid (Below w.heap.size w (w.alloc (.cells #[.slice C p.C.length cC, .slice S p.S.length cS, .slice L p.L.length cL] 27))) := (Below.refl _ _).alloc (Nat.le_refl _) _
  have HX0 : Hid (Blk (w.alloc (.cells #[.slice C p.C.length cC, .slice S p.S.length cS, .slice L p.L.length cL] 27)) w.heap.size 27 #[.slice C p.C.length cC, .slice S p.S.length cS, .slice L p.L.length cL]) := Blk.new _ _ _
  have HP0 := Lib.hid (hp.below HB0.out).lt
  obtain ⟨f1, f2, f3⟩ := hf
  clear hg hp
  cases hv : vld14 p with
  | false =>
    have HV := Lib.hid hv
    have HE : Hid ((xs, b) = ([], false)) := by
      show _ = _
      rw [← HG.out, get14, if_neg (by rw [hv]; simp)]
    clear hv
    go_enter Try.func22, Try.ntmps22
    go_wp2_with fail
    refine (vld_calls C S L cC cS cL p _ HP0.out HF.out _ HV.out).mono ?_
    rintro e w1 ⟨rfl, hb1⟩
    have HB1 := Lib.hid (below_then HB0.out hb1 (Nat.le_refl _))
    clear hb1 HB0 HX0 HP0
    go_wp2
    go_ret2
    obtain ⟨rfl, rfl⟩ := Prod.mk.inj HE.out
    exact ⟨none, 0, rfl, by simp, by simp [maxLen], Row.nil, HB1.out⟩
  | true =>
    have HV := Lib.hid hv
    clear hv
    by_cases h1 : 0 ≤ i ∧ i < p.S.length
    · obtain ⟨k, rfl⟩ := Int.eq_ofNat_of_zero_le h1.1
      have hk : k < p.S.length := by omega
      have HE : Hid ((xs, b) = (seqAt p k, true)) := by
        show _ = _
        rw [← HG.out, get14, if_pos ⟨HV.out, h1⟩]
        rfl
      clear h1
      go_enter Try.func22, Try.ntmps22
      go_wp2_with fail
      refine (vld_calls C S L cC cS cL p _ HP0.out HF.out _ HV.out).mono ?_
      rintro e w1 ⟨rfl, hb1⟩
      have HB1 := Lib.hid (below_then HB0.out hb1 (Nat.le_refl _))
      have HX1 := Lib.hid (HX0.out.after hb1)
      have HP1 := Lib.hid (HP0.out.below hb1).lt
      obtain ⟨e0, e1, e2⟩ := HX1.out.cells3
      have hlt := HX1.out.lt
      clear hb1 HB0 HX0 HP0
      go_wp2_with fail
      refine (sequence_p C S L cC cS cL p _ HP1.out HV.out k hk).mono ?_
      rintro e w2 ⟨A2, c2, rfl, g1, g2, g3, g4⟩
      have HB2 := Lib.hid (below_then HB1.out g4 (Nat.le_refl _))
      have HR2 := Lib.hid g3
      have hsl := seqAt_len (p := p) (k := k)
      clear g3 g4 HB1 HX1 HP1 e0 e1 e2
      go_wp2_with fail
      refine (copied_any A2 c2 _ (seqAt p k) _ HR2.out (Nat.le_refl _) (by omega)).mono ?_
      rintro e w3 ⟨A3, c3, rfl, q1, q2, q3, q4⟩
      have HB3 := Lib.hid (below_then HB2.out q4 (Nat.le_refl _))
      have HR3 := Lib.hid q3
      clear q3 q4 HB2 HR2
      go_wp2
      go_ret2
      obtain ⟨rfl, rfl⟩ := Prod.mk.inj HE.out
      exact ⟨A3, c3, rfl, q1, q2, HR3.out, HB3.out⟩
    · have HE : Hid ((xs, b) = ([], false)) := by
        show _ = _
        rw [← HG.out, get14, if_neg (by intro h; exact h1 h.2)]
      have h2 : i < 0 ∨ (p.S.length : Int) ≤ i := by omega
      clear h1
      rcases h2 with h2 | h2
      all_goals
        go_enter Try.func22, Try.ntmps22
        go_wp2_with fail
        refine (vld_calls C S L cC cS cL p _ HP0.out HF.out _ HV.out).mono ?_
        rintro e w1 ⟨rfl, hb1⟩
        have HB1 := Lib.hid (below_then HB0.out hb1 (Nat.le_refl _))
        have HX1 := Lib.hid (HX0.out.after hb1)
        obtain ⟨e0, e1, e2⟩ := HX1.out.cells3
        have hlt := HX1.out.lt
        clear hb1 HB0 HX0 HP0
        go_wp2
        all_goals
          go_ret2
          obtain ⟨rfl, rfl⟩ := Prod.mk.inj HE.out
          exact ⟨none, 0, rfl, by simp, by simp [maxLen], Row.nil, HB1.out⟩
end Go.Proofs.Yteobffcnfigilaa
