/-
  ref29.samePattern, sameRest, has: equality of patterns.
  Sets of rests in memory; ref29.has.
-/
import Derived.Test.YtkoojoogddndnaaPf3
import Derived.Test.YtkoojoogddndnaaRef1
import Derived.Test.YtkoojoogddndnaaEr2
namespace Go.Proofs.Ytkoojoogddndnaa
open Go.RowKit Go.UtYtkoojoogddndnaa
/-- the call reports whether P -/
def RetP (P : Prop) (w : World) (e : Ending) (w' : World) : Prop := ∃ v : Bool, e = .returned (.bool v) ∧ (v = true ↔ P) ∧ Below w.heap.size w w'
theorem equal31_v (A A' : Option Addr) (c c' B n n' : Nat) (xs ys : List Int) (w : World) (hx : Row w B A (ints xs)) (hy : Row w B A' (ints ys)) (hn : xs.length = n) (hn' : ys.length = n') (lx : n ≤ maxLen) (ly : n' ≤ maxLen) (v : Bool) (hv : decide (xs = ys) = v) :
    Calls Try.prog 73 #[.slice A n c, .slice A' n' c'] w fun e w' => e = .returned (.bool v) ∧ Below w.heap.size w w' := by
  subst hn hn'
  have := equal_below A A' c c' B xs ys w hx hy lx ly
  rw [cmpL_beq, hv] at this
  exact this
def SameOk (p : Pat) : Prop := ∀ (q : Pat) (A1 : Option Addr) (c1 : Nat) (A2 : Option Addr) (c2 : Nat) (B1 : Option Addr) (d1 : Nat) (B2 : Option Addr) (d2 : Nat) (w : World), PvAt w w.heap.size p A1 c1 A2 c2 → PvAt w w.heap.size q B1 d1 B2 d2 →
    Calls Try.prog 116 #[.agg #[.int .i64 p.kind, .slice A1 p.cls.length c1, .slice A2 p.subs.length c2], .agg #[.int .i64 q.kind, .slice B1 q.cls.length d1, .slice B2 q.subs.length d2]] w (RetP (p = q) w)
theorem take_snoc_eq {α : Type} {a b : List α} {j : Nat} {x y : α} (h : a.take j = b.take j) (hx : a[j]? = some x) (hy : b[j]? = some y) (e : x = y) : a.take (j + 1) = b.take (j + 1) := by
  obtain ⟨h1, h2⟩ := List.getElem?_eq_some_iff.1 hx
  obtain ⟨h3, h4⟩ := List.getElem?_eq_some_iff.1 hy
  rw [List.take_succ_eq_append_getElem h1, List.take_succ_eq_append_getElem h3, h, h2, h4, e]
set_option maxRecDepth 100000 in
set_option maxHeartbeats 2000000 in
theorem sameRest_of (a b : List Pat) (ha : ∀ q ∈ a, SameOk q) (A A' : Option Addr) (c c' n n' : Nat) (w : World) (h : PsAt w w.heap.size A c a) (h' : PsAt w w.heap.size A' c' b) (hn : a.length = n) (hn' : b.length = n') :
    Calls Try.prog 104 #[.slice A n c, .slice A' n' c'] w (RetP (a = b) w) := by
  have HA := Lib.hid h
  have HB' := Lib.hid h'
  have IH := Lib.hid ha
  have HN := Lib.hid hn
  have HN' := Lib.hid hn'
  have hn31 : n ≤ 9223372036854775807 := by have := h.1; simp only [maxLen] at this; omega
  have hn31' : n' ≤ 9223372036854775807 := by have := h'.1; simp only [maxLen] at this; omega
  clear h ha hn h' hn'
  by_cases hne : n = n'
  case neg =>
    have e1 : ((n : Int) != (n' : Int)) = true := by simp; omega
    have HF : Hid (¬ a = b) := Lib.hid (fun h => hne (by rw [← HN.out, ← HN'.out, h]))
    go_enter Try.func104, Try.ntmps104
    go_wp2
    go_ret
    exact ⟨false, rfl, ⟨fun h => (by cases h), fun h => absurd h HF.out⟩, Below.refl _ _⟩
  case pos =>
    subst hne
    go_enter Try.func104, Try.ntmps104
    go_wp2
    go_loopw [5] (fun iv wr => ∃ (j : Nat), j ≤ n ∧ iv = .int .i64 (j : Int) ∧ Hid (a.take j = b.take j) ∧ Hid (Below w.heap.size w wr)) (fun i _ => n - (intOf i).toNat)
    case atStart => exact ⟨0, by omega, rfl, rfl, Below.refl _ _⟩
    case round =>
      obtain ⟨j, hj, rfl, HE, HB⟩ := hrel
      have hbs := HB.out.size
      by_cases hjn : j < n
      · obtain ⟨o1, i1, p, A1, c1, A2, c2, rfl, hb, hp, p0, p1, p2, g1, g2, g3⟩ := (HA.out.below HB.out).at_ (k := j) (by rw [HN.out]; exact hjn)
        obtain ⟨o2, i2, q, B1, d1, B2, d2, rfl, hb', hq, q0, q1, q2, k1, k2, k3⟩ := (HB'.out.below HB.out).at_ (k := j) (by rw [HN'.out]; exact hjn)
        have hbl : o1 < wr.heap.size := by omega
        have hbl' : o2 < wr.heap.size := by omega
        have CQ := IH.out p (List.mem_of_getElem? hp.out) q A1 c1 A2 c2 B1 d1 B2 d2 wr.drew ⟨g1, g2.lt, g3.lt.below ((Below.refl _ _).drew)⟩ ⟨k1, k2.lt, k3.lt.below ((Below.refl _ _).drew)⟩
        obtain ⟨pk, hpk⟩ : ∃ z, p.kind = z := ⟨_, rfl⟩
        obtain ⟨pn, hpn⟩ : ∃ z, p.cls.length = z := ⟨_, rfl⟩
        obtain ⟨ps, hps⟩ : ∃ z, p.subs.length = z := ⟨_, rfl⟩
        obtain ⟨qk, hqk⟩ : ∃ z, q.kind = z := ⟨_, rfl⟩
        obtain ⟨qn, hqn⟩ : ∃ z, q.cls.length = z := ⟨_, rfl⟩
        obtain ⟨qs, hqs⟩ : ∃ z, q.subs.length = z := ⟨_, rfl⟩
        rw [hpk, hpn, hps, hqk, hqn, hqs] at CQ
        rw [hpk] at p0
        rw [hpn] at p1
        rw [hps] at p2
        rw [hqk] at q0
        rw [hqn] at q1
        rw [hqs] at q2
        replace CQ := Lib.hid CQ
        clear hqk hqn hqs hpk hpn hps g1 g2 g3 k1 k2 k3
        go_wp2
        refine wp_region_tree (fun w' => Below wr.heap.size wr w') (.float 0 (.float 1 (.float 2 (.float 3 (.float 4 (.float 5 (.float 6 (.float 7 (.one 8 (.float 9 .done)))))))))) (by kernel_rfl) (by kernel_rfl) (fun _ _ d _ _ h => by cases d <;> exact h) (Below.refl _ _).drew ?_
        repeat (first
          | (refine wpTr_fskip (by simp only [List.getElem?_toArray, List.getElem?_cons_zero, List.getElem?_cons_succ]; rfl) (by rfl) ?_
             simp only [Act.put, List.setIfInBounds_toArray, List.set_cons_zero, List.set_cons_succ])
          | (refine wpTr_float (v := ?_) (by simp only [List.getElem?_toArray, List.getElem?_cons_zero, List.getElem?_cons_succ]; rfl) (by rfl) (fun w' hS => ?_) ?_
             rotate_left
             ((try (have p0' := (hS.cell (p := ⟨o1, i1 + j * 3, none⟩) hbl).trans p0; have p1' := (hS.cell (p := ⟨o1, i1 + j * 3 + 1, none⟩) hbl).trans p1; have p2' := (hS.cell (p := ⟨o1, i1 + j * 3 + 2, none⟩) hbl).trans p2; have q0' := (hS.cell (p := ⟨o2, i2 + j * 3, none⟩) hbl').trans q0; have q1' := (hS.cell (p := ⟨o2, i2 + j * 3 + 1, none⟩) hbl').trans q1; have q2' := (hS.cell (p := ⟨o2, i2 + j * 3 + 2, none⟩) hbl').trans q2; have hz1 := Nat.lt_of_lt_of_le hbl hS.size; have hz2 := Nat.lt_of_lt_of_le hbl' hS.size)); go_simp; first | done | rfl)
             simp only [Act.put, List.setIfInBounds_toArray, List.set_cons_zero, List.set_cons_succ]))
        refine wpTr_one ?_
        refine stepTr_K (by simp only [List.getElem?_toArray, List.getElem?_cons_zero, List.getElem?_cons_succ]; rfl) (by rfl) (fun K hK => ?_)
        go_simp
        refine CQ.out.mono ?_
        rintro e w2 ⟨v, rfl, hv, hb2⟩
        have HX : Hid (Below wr.heap.size wr w2) := (Below.refl _ _).drew.trans hb2
        have HB2 : Hid (Below w.heap.size w w2) := HB.out.trans (HX.out.mono HB.out.size)
        have HV := Lib.hid hv
        refine hK.out _ _ HX.out ?_
        clear hK K hb2 hv
        try simp only [Act.put, List.setIfInBounds_toArray, List.set_cons_zero, List.set_cons_succ]
        cases v
        · have HF : Hid (¬ a = b) := Lib.hid (fun h => by
            subst h
            have h1 := hp.out
            rw [hq.out] at h1
            have h2 := HV.out.2 (Option.some.inj h1).symm
            cases h2)
          repeat (first
            | (refine wpTr_fskip (by simp only [List.getElem?_toArray, List.getElem?_cons_zero, List.getElem?_cons_succ]; rfl) (by rfl) ?_
               simp only [Act.put, List.setIfInBounds_toArray, List.set_cons_zero, List.set_cons_succ])
            | (refine wpTr_float (v := ?_) (by simp only [List.getElem?_toArray, List.getElem?_cons_zero, List.getElem?_cons_succ]; rfl) (by rfl) (fun w' hS => ?_) ?_
               rotate_left
               ((skip); go_simp; first | done | rfl)
               simp only [Act.put, List.setIfInBounds_toArray, List.set_cons_zero, List.set_cons_succ]))
          refine wpTr_done ?_
          go_wp2
          go_ret
          exact ⟨false, rfl, ⟨fun h => (by cases h), fun h => absurd h HF.out⟩, HB2.out⟩
        · have HE2 : Hid (a.take (j + 1) = b.take (j + 1)) := Lib.hid (take_snoc_eq HE.out hp.out hq.out (HV.out.1 rfl))
          repeat (first
            | (refine wpTr_fskip (by simp only [List.getElem?_toArray, List.getElem?_cons_zero, List.getElem?_cons_succ]; rfl) (by rfl) ?_
               simp only [Act.put, List.setIfInBounds_toArray, List.set_cons_zero, List.set_cons_succ])
            | (refine wpTr_float (v := ?_) (by simp only [List.getElem?_toArray, List.getElem?_cons_zero, List.getElem?_cons_succ]; rfl) (by rfl) (fun w' hS => ?_) ?_
               rotate_left
               ((skip); go_simp; first | done | rfl)
               simp only [Act.put, List.setIfInBounds_toArray, List.set_cons_zero, List.set_cons_succ]))
          refine wpTr_done ?_
          go_wp2
          go_roundw
          case rel => exact ⟨j + 1, by omega, by go_num, HE2, HB2⟩
          case measure => simp [intOf] <;> omega
      · have HF : Hid (a = b) := Lib.hid (by
          have := HE.out
          rwa [List.take_of_length_le (by rw [HN.out]; omega), List.take_of_length_le (by rw [HN'.out]; omega)] at this)
        go_wp2
        go_ret
        exact ⟨true, rfl, ⟨fun _ => HF.out, fun _ => rfl⟩, HB.out⟩
set_option maxRecDepth 100000 in
set_option maxHeartbeats 4000000 in
theorem same_any : ∀ (p : Pat), SameOk p := by
  intro p
  induction p using Pat.ind with
  | h k cl s ih =>
    intro q A1 c1 A2 c2 B1 d1 B2 d2 w hP hQ
    obtain ⟨k', cl', s'⟩ := q
    simp only [Pat.kind, Pat.cls, Pat.subs]
    have CR := Lib.hid (fun (u : World) (hu : Below w.heap.size w u) => sameRest_of s s' ih A2 B2 c2 d2 s.length s'.length u (hP.2.2.below hu).lt (hQ.2.2.below hu).lt rfl rfl)
    have CE := Lib.hid (fun (u : World) (hu : Below w.heap.size w u) (v : Bool) (hv : decide (cl = cl') = v) => equal31_v A1 B1 c1 d1 u.heap.size cl.length cl'.length cl cl' u (hP.2.1.below hu).lt (hQ.2.1.below hu).lt rfl rfl (by have := hP.1; simp only [Pat.cls] at this; omega) (by have := hQ.1; simp only [Pat.cls] at this; omega) v hv)
    obtain ⟨nc, hnc⟩ : ∃ n, cl.length = n := ⟨_, rfl⟩
    obtain ⟨n, hn⟩ : ∃ n, s.length = n := ⟨_, rfl⟩
    obtain ⟨nc', hnc'⟩ : ∃ n, cl'.length = n := ⟨_, rfl⟩
    obtain ⟨n', hn'⟩ : ∃ n, s'.length = n := ⟨_, rfl⟩
    rw [hn, hn'] at CR
    rw [hnc, hnc'] at CE
    rw [hnc, hn, hnc', hn']
    have HIFF : Hid (Pat.mk k cl s = Pat.mk k' cl' s' ↔ k = k' ∧ cl = cl' ∧ s = s') := Lib.hid (by simp)
    obtain ⟨Q, hQe⟩ : ∃ Q : Prop, (Pat.mk k cl s = Pat.mk k' cl' s') = Q := ⟨_, rfl⟩
    rw [hQe] at HIFF ⊢
    obtain ⟨w1, hw1, HB1, HK1⟩ := boxV w 77 #[.int .i64 k, .slice A1 nc c1, .slice A2 n c2]
    obtain ⟨w2, hw2, HB2', HK2⟩ := boxV w1 77 #[.int .i64 k', .slice B1 nc' d1, .slice B2 n' d2]
    have HB2 := Lib.hid (HB1.out.trans (HB2'.out.mono HB1.out.size))
    have HK1' := Lib.hid (HK1.out.after HB2'.out)
    have hs1 : w1.heap.size = w.heap.size + 1 := by rw [hw1]; simp
    obtain ⟨g, hg⟩ : ∃ g, g = w1.heap.size := ⟨_, rfl⟩
    rw [← hg] at HK2
    have hgw : g = w.heap.size + 1 := by omega
    have p0 := HK1'.out.cell 0
    have p1 := HK1'.out.cell 1
    have p2 := HK1'.out.cell 2
    have pl := HK1'.out.lt
    have q0 := HK2.out.cell 0
    have q1 := HK2.out.cell 1
    have q2 := HK2.out.cell 2
    have ql := HK2.out.lt
    simp only [List.getElem?_toArray, List.getElem?_cons_zero, List.getElem?_cons_succ] at p0 p1 p2 q0 q1 q2
    clear ih hP hQ hnc hn hnc' hn' hQe hg
    by_cases hk : k = k'
    case neg =>
      have e1 : (k == k') = false := by simpa using hk
      go_enter Try.func116, Try.ntmps116
      go_upto_region 1 with fail
      rw [← hw1, ← hw2, ← hgw]
      clear hw1 hw2 hgw hs1
      go_wp2
      go_ret
      exact ⟨false, rfl, ⟨fun h => (by cases h), fun h => absurd (HIFF.out.1 h).1 hk⟩, HB2.out⟩
    case pos =>
      subst hk
      by_cases hc : cl = cl'
      case neg =>
        have HC := Lib.hid hc
        clear hc
        go_enter Try.func116, Try.ntmps116
        go_upto_region 1 with fail
        rw [← hw1, ← hw2, ← hgw]
        clear hw1 hw2 hgw hs1
        go_wp2_with fail
        refine (CE.out w2 HB2.out false (decide_eq_false HC.out)).mono ?_
        rintro e w3 ⟨rfl, hb3⟩
        have HB3 := Lib.hid (HB2.out.trans (hb3.mono HB2.out.size))
        clear hb3
        go_wp2
        go_ret
        exact ⟨false, rfl, ⟨fun h => (by cases h), fun h => absurd (HIFF.out.1 h).2.1 HC.out⟩, HB3.out⟩
      case pos =>
        have HC := Lib.hid hc
        clear hc
        go_enter Try.func116, Try.ntmps116
        go_upto_region 1 with fail
        rw [← hw1, ← hw2, ← hgw]
        clear hw1 hw2 hgw hs1
        go_wp2_with fail
        refine (CE.out w2 HB2.out true (decide_eq_true HC.out)).mono ?_
        rintro e w3 ⟨rfl, hb3⟩
        have HB3 := Lib.hid (HB2.out.trans (hb3.mono HB2.out.size))
        have HK3 := Lib.hid (HK1'.out.after hb3)
        have HK3' := Lib.hid (HK2.out.after hb3)
        clear hb3 p0 p1 p2 pl q0 q1 q2 ql
        have p2 := HK3.out.cell 2
        have pl := HK3.out.lt
        have q2 := HK3'.out.cell 2
        have ql := HK3'.out.lt
        simp only [List.getElem?_toArray, List.getElem?_cons_zero, List.getElem?_cons_succ] at p2 q2
        go_wp2_with fail
        refine (CR.out w3 HB3.out).mono ?_
        rintro e w4 ⟨v, rfl, hv, hb4⟩
        have HB4 := Lib.hid (HB3.out.trans (hb4.mono HB3.out.size))
        have HV := Lib.hid hv
        clear hb4 hv
        go_wp2
        go_ret
        exact ⟨v, rfl, ⟨fun h => HIFF.out.2 ⟨by first | trivial | rfl, HC.out, HV.out.1 h⟩, fun h => HV.out.2 (HIFF.out.1 h).2.2⟩, HB4.out⟩
theorem sameRest_any (a b : List Pat) (A A' : Option Addr) (c c' n n' : Nat) (w : World) (h : PsAt w w.heap.size A c a) (h' : PsAt w w.heap.size A' c' b) (hn : a.length = n) (hn' : b.length = n') :
    Calls Try.prog 104 #[.slice A n c, .slice A' n' c'] w (RetP (a = b) w) := sameRest_of a b (fun q _ => same_any q) A A' c c' n n' w h h' hn hn'
end Go.Proofs.Ytkoojoogddndnaa
namespace Go.UtYtkoojoogddndnaa
open Go.RowKit
/-- a slice of slices of patterns -/
def RsAt (w : World) (B : Nat) (vs : List Value) (S : List (List Pat)) : Prop :=
  vs.length = S.length ∧ ∀ (k : Nat) (r : List Pat), S[k]? = some r → ∃ A c, vs[k]? = some (.slice A r.length c) ∧ PsAt w B A c r
section
variable {w w' : World} {B : Nat} {vs : List Value} {S : List (List Pat)}
theorem RsAt.below (h : RsAt w B vs S) (hb : Below B w w') : RsAt w' B vs S := ⟨h.1, fun k r hk => by
  obtain ⟨A, c, h1, h2⟩ := h.2 k r hk
  exact ⟨A, c, h1, h2.below hb⟩⟩
theorem RsAt.lt (h : RsAt w B vs S) : RsAt w w.heap.size vs S := ⟨h.1, fun k r hk => by
  obtain ⟨A, c, h1, h2⟩ := h.2 k r hk
  exact ⟨A, c, h1, h2.lt⟩⟩
theorem RsAt.nil : RsAt w B [] [] := ⟨rfl, fun k r h => by simp at h⟩
theorem RsAt.snoc (h : RsAt w B vs S) {r : List Pat} {A : Option Addr} {c : Nat} (hr : PsAt w B A c r) : RsAt w B (vs ++ [.slice A r.length c]) (S ++ [r]) := by
  refine ⟨by simp [h.1], fun k q hk => ?_⟩
  by_cases hlt : k < S.length
  · rw [List.getElem?_append_left hlt] at hk
    obtain ⟨A', c', g1, g2⟩ := h.2 k q hk
    exact ⟨A', c', by rw [List.getElem?_append_left (by rw [h.1]; exact hlt)]; exact g1, g2⟩
  · have hk2 : k = S.length := by
      have := (List.getElem?_eq_some_iff.1 hk).1
      simp at this
      omega
    subst hk2
    rw [List.getElem?_append_right (Nat.le_refl _), Nat.sub_self] at hk
    simp at hk
    subst hk
    exact ⟨A, c, by rw [List.getElem?_append_right (by rw [h.1]; exact Nat.le_refl _), h.1, Nat.sub_self]; rfl, hr⟩
theorem PatAt.of_era {E : Nat → Prop} {p : Pat} {us : List Value} (h : PatAt (era w E) B p us) : PatAt w B p us := PatAt.keep (fun _ _ h => h.of_era) p us h
theorem PsAt.of_era {E : Nat → Prop} {A : Option Addr} {c : Nat} {ps : List Pat} (h : PsAt (era w E) B A c ps) : PsAt w B A c ps := by
  obtain ⟨h1, us, h2, h3⟩ := h
  exact ⟨h1, us, h2.of_era, PatsAt.keep (fun _ _ h => h.of_era) ps us h3⟩
theorem PsAt.era_keep {E E' : Nat → Prop} {A : Option Addr} {c : Nat} {ps : List Pat} (h : PsAt (era w E) B A c ps) (hk : ∀ b, b < B → ¬ E b → w'.heap[b]? = w.heap[b]?) (he : ∀ b, b < B → E' b → E b) : PsAt (era w' E') B A c ps := by
  obtain ⟨h1, us, h2, h3⟩ := h
  exact ⟨h1, us, h2.era_keep hk he, PatsAt.keep (fun _ _ h => h.era_keep hk he) ps us h3⟩
theorem PsAt.more {A : Option Addr} {c B' : Nat} {ps : List Pat} (h : PsAt w B A c ps) (hB : B ≤ B') : PsAt w B' A c ps := by
  obtain ⟨h1, us, h2, h3⟩ := h
  exact ⟨h1, us, h2.more hB, PatsAt.keep (fun _ _ h => h.more hB) ps us h3⟩
theorem RsAt.of_era {E : Nat → Prop} (h : RsAt (era w E) B vs S) : RsAt w B vs S := ⟨h.1, fun k r hk => by
  obtain ⟨A, c, h1, h2⟩ := h.2 k r hk
  exact ⟨A, c, h1, h2.of_era⟩⟩
theorem RsAt.era_keep {E E' : Nat → Prop} (h : RsAt (era w E) B vs S) (hk : ∀ b, b < B → ¬ E b → w'.heap[b]? = w.heap[b]?) (he : ∀ b, b < B → E' b → E b) : RsAt (era w' E') B vs S := ⟨h.1, fun k r hk' => by
  obtain ⟨A, c, h1, h2⟩ := h.2 k r hk'
  exact ⟨A, c, h1, h2.era_keep hk he⟩⟩
theorem RsAt.more {B' : Nat} (h : RsAt w B vs S) (hB : B ≤ B') : RsAt w B' vs S := ⟨h.1, fun k r hk' => by
  obtain ⟨A, c, h1, h2⟩ := h.2 k r hk'
  exact ⟨A, c, h1, h2.more hB⟩⟩
end
end Go.UtYtkoojoogddndnaa
namespace Go.Proofs.Ytkoojoogddndnaa
open Go.RowKit Go.UtYtkoojoogddndnaa
set_option maxRecDepth 100000 in
set_option maxHeartbeats 2000000 in
theorem has_any (S : List (List Pat)) (x : List Pat) (vs : List Value) (A A' : Option Addr) (c c' n m : Nat) (w : World) (hV : Row w w.heap.size A vs) (hS : RsAt w w.heap.size vs S) (hX : PsAt w w.heap.size A' c' x) (hn : S.length = n) (hm : x.length = m) (hnm : n ≤ 1000000) :
    Calls Try.prog 87 #[.slice A n c, .slice A' m c'] w (RetP (x ∈ S) w) := by
  have HV := Lib.hid hV
  have HS := Lib.hid hS
  have CR := Lib.hid (fun (u : World) (hu : Below w.heap.size w u) (a : List Pat) (B : Option Addr) (d : Nat) (h : PsAt u u.heap.size B d a) => sameRest_any a x B A' d c' a.length m u h (hX.below hu).lt rfl hm)
  have HN := Lib.hid hn
  obtain ⟨Q, hQ⟩ : ∃ Q : Prop, (x ∈ S) = Q := ⟨_, rfl⟩
  have HQ : Hid (Q ↔ x ∈ S) := Lib.hid (by rw [hQ])
  rw [hQ]
  clear hV hS hX hn hm hQ
  go_enter Try.func87, Try.ntmps87
  go_wp2
  go_loopw [5] (fun iv wr => ∃ (j : Nat), j ≤ n ∧ iv = .int .i64 (j : Int) ∧ Hid (∀ r ∈ S.take j, r ≠ x) ∧ Hid (Below w.heap.size w wr)) (fun i _ => n - (intOf i).toNat)
  case atStart => exact ⟨0, by omega, rfl, fun r hr => by simp at hr, Below.refl _ _⟩
  case round =>
    obtain ⟨j, hj, rfl, HI, HB⟩ := hrel
    have hbs := HB.out.size
    by_cases hjn : j < n
    · obtain ⟨r, HR⟩ : ∃ r, Hid (S[j]? = some r) := ⟨_, List.getElem?_eq_getElem (by rw [HN.out]; exact hjn)⟩
      obtain ⟨B, d, h1, h2⟩ := HS.out.2 j r HR.out
      obtain ⟨b, o, hA, hb, hc⟩ := (HV.out.below HB.out) (fun e => by rw [e] at h1; simp at h1)
      have cc := hc j _ h1
      have hbl : b < wr.heap.size := by omega
      subst hA
      have CR1 := CR.out wr HB.out r B d (h2.below HB.out).lt
      obtain ⟨nr, hnr⟩ : ∃ z, r.length = z := ⟨_, rfl⟩
      rw [hnr] at CR1 cc
      replace CR1 := Lib.hid CR1
      clear hnr h1 h2 hc
      go_wp2_with fail
      refine CR1.out.mono ?_
      rintro e w2 ⟨v, rfl, hv, hb2⟩
      have HB2 : Hid (Below w.heap.size w w2) := HB.out.trans (hb2.mono HB.out.size)
      have HV2 := Lib.hid hv
      clear hb2 hv
      cases v
      · have HI2 : Hid (∀ q ∈ S.take (j + 1), q ≠ x) := Lib.hid (all_snoc (P := fun q => q ≠ x) HI.out HR.out (fun e => by cases HV2.out.2 e))
        go_wp2
        go_roundw
        case rel => exact ⟨j + 1, by omega, by go_num, HI2, HB2⟩
        case measure => simp [intOf] <;> omega
      · have HF : Hid Q := Lib.hid (HQ.out.2 (by
          have := HV2.out.1 rfl
          subst this
          exact List.mem_of_getElem? HR.out))
        go_wp2
        go_ret
        exact ⟨true, rfl, ⟨fun _ => HF.out, fun _ => rfl⟩, HB2.out⟩
    · have HF : Hid (¬ Q) := Lib.hid (fun h => all_take HI.out (by rw [HN.out]; omega) x (HQ.out.1 h) rfl)
      go_wp2
      go_ret
      exact ⟨false, rfl, ⟨fun h => (by cases h), fun h => absurd h HF.out⟩, HB.out⟩
end Go.Proofs.Ytkoojoogddndnaa
