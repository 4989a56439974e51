/-
  ref28.index, word, Named: they return.
  ref28.right returns (printed by pf4.py).
  ref28.Check returns (printed by pf5.py).
  ref29.empty, rest: they return.
-/
import Derived.Test.YtkoojoogddndnaaPf0
import Derived.Test.YtkoojoogddndnaaBq1
import Derived.Test.YtkoojoogddndnaaBp1
namespace Go.Proofs.Ytkoojoogddndnaa
open Go.RowKit Go.UtYtkoojoogddndnaa
attribute [local go_sem high] str_eql str_neq
theorem Row.pre {w : World} {B : Nat} {A : Option Addr} {vs : List Value} (h : Row w B A vs) (k : Nat) : Row w B A (vs.take k) := fun hv => by
  obtain ⟨b, o, e, hb, hc⟩ := h (fun e => hv (by rw [e]; simp))
  refine ⟨b, o, e, hb, fun j v hj => hc j v ?_⟩
  rw [List.getElem?_take] at hj
  split at hj
  · exact hj
  · cases hj
set_option maxRecDepth 100000 in
set_option maxHeartbeats 1000000 in
theorem index28_any (A : Option Addr) (c n : Nat) (l : List Nm) (s : Nm) (w : World) (h : Row w w.heap.size A (strs l)) (hn : l.length = n) (hl : n ≤ 1000) :
    Calls Try.prog 85 #[.slice A n c, .string ⟨s.toArray⟩] w fun e w' => (∃ v : Int, e = .returned (.int .i64 v)) ∧ w' = w := by
  have HR := Lib.hid h
  have HN := Lib.hid hn
  clear h hn
  go_enter Try.func85, Try.ntmps85
  go_wp2
  go_loopw [5] (fun i wr => ∃ k : Nat, k ≤ n ∧ i = .int .i64 (k : Int) ∧ wr = w) (fun i _ => n - (intOf i).toNat)
  case atStart => exact ⟨0, by omega, rfl, rfl⟩
  case round =>
    obtain ⟨k, hk, rfl, hw⟩ := hrel
    subst wr
    by_cases hkn : k < n
    · obtain ⟨b, o, u, rfl, hb, hx, cc⟩ := HR.out.at_str (k := k) (by rw [HN.out]; exact hkn)
      by_cases hus : u = s
      · subst hus
        go_wp2
        go_ret
        exact ⟨⟨_, rfl⟩, rfl⟩
      · have dd : decide (u = s) = false := decide_eq_false hus
        go_wp2
        go_roundw
        case rel => exact ⟨k + 1, by omega, by go_num, by trivial⟩
        case measure => simp [intOf]; omega
    · go_wp2
      go_ret
      exact ⟨⟨_, rfl⟩, rfl⟩
set_option maxRecDepth 100000 in
set_option maxHeartbeats 1000000 in
theorem word28_any (s : Nm) (w : World) : Calls Try.prog 84 #[.string ⟨s.toArray⟩] w fun e w' => (∃ v : Bool, e = .returned (.bool v)) ∧ Below w.heap.size w w' := by
  obtain ⟨w1, hw1, HB1, HK1⟩ := boxV w 9 (strs bwords).toArray
  unfold strs strV bwords at hw1
  simp only [List.map_cons, List.map_nil] at hw1
  have HRW : Hid (Row w1 w1.heap.size (some ⟨w.heap.size, 0, none⟩) (strs bwords)) := HK1.out.row (by simp)
  go_enter Try.func84, Try.ntmps84
  go_wp2_with fail
  rw [← hw1]
  clear hw1
  refine (index28_any _ 7 7 bwords s w1 HRW.out rfl (by omega)).mono ?_
  rintro e w2 ⟨⟨v, rfl⟩, hw2⟩
  subst hw2
  go_wp2
  go_ret
  exact ⟨⟨_, rfl⟩, HB1.out⟩
set_option maxRecDepth 100000 in
set_option maxHeartbeats 4000000 in
theorem named28_any (A : Option Addr) (c : Nat) (l : List Nm) (w : World) (h : StrsAt w w.heap.size A l) (hc : l.length ≤ c) (hl : l.length ≤ 6) :
    Calls Try.prog 67 #[.slice A l.length c] w fun e w' => (∃ v : Bool, e = .returned (.bool v)) ∧ Below w.heap.size w w' := by
  have HS := Lib.hid h.2
  have HR := Lib.hid h.1
  obtain ⟨n, hn⟩ : ∃ n, l.length = n := ⟨_, rfl⟩
  have HN := Lib.hid hn
  rw [hn] at hl hc ⊢
  clear h hn
  by_cases h1 : n < 1
  · have d1 : decide (n < 1) = true := decide_eq_true h1
    have d1' : decide ((n : Int) < 1) = true := decide_eq_true (by omega)
    go_enter Try.func67, Try.ntmps67
    go_wp2
    go_ret
    exact ⟨⟨_, rfl⟩, Below.refl _ _⟩
  have d1 : decide (n < 1) = false := decide_eq_false h1
  have d1' : decide ((n : Int) < 1) = false := decide_eq_false (by omega)
  have d2 : decide (60 < n) = false := decide_eq_false (by omega)
  have d2' : decide (60 < (n : Int)) = false := decide_eq_false (by omega)
  have HB0 : Hid (Below w.heap.size w w) := Below.refl _ _
  go_enter Try.func67, Try.ntmps67
  go_wp2
  go_loopw [3] (fun i wr => ∃ k : Nat, k ≤ n ∧ i = .int .i64 (k : Int) ∧ Hid (Below w.heap.size w wr)) (fun i _ => n - (intOf i).toNat)
  case atStart => exact ⟨0, by omega, rfl, HB0⟩
  case round =>
    obtain ⟨k, hk, rfl, HB⟩ := hrel
    by_cases hkn : k < n
    · obtain ⟨b, o, s, rfl, hb, hx, cc⟩ := (HR.out.below HB.out).at_str (k := k) (by rw [HN.out]; exact hkn)
      have hbs := HB.out.size
      have hbl : b < wr.heap.size := by omega
      have hsl := HS.out s (List.mem_of_getElem? hx.out)
      have gk : k ≤ c := by omega
      have gk' : (k : Int) ≤ (c : Int) := by omega
      obtain ⟨nb, hnb⟩ : ∃ v, nameB s = v := ⟨_, rfl⟩
      have CN := Lib.hid (fun (u : World) => named10_any s u nb hnb hsl)
      have CW := Lib.hid (fun (u : World) => word28_any s u)
      have CI := Lib.hid (fun (u : World) (hu : Below wr.heap.size wr u) => index28_any (some ⟨b, o, none⟩) c k (l.take k) s u (by
        have := Row.pre (((HR.out.below HB.out).lt.below hu).lt) k
        unfold strs at this ⊢
        rwa [List.map_take]) (by rw [List.length_take, HN.out]; omega) (by omega))
      clear hnb
      go_wp2
      cases nb
      · refine wp_region_tree (fun w' => Below wr.heap.size wr w' ∧ w'.cell? ⟨b, o + k, none⟩ = some (.string ⟨s.toArray⟩) ∧ b < w'.heap.size) (.float 0 (.float 1 (.float 2 (.float 3 (.one 4 (.float 5 (.float 6 (.float 7 (.float 8 (.float 9 (.float 10 (.one 11 (.float 12 (.float 13 (.float 14 (.float 15 (.float 16 (.float 17 (.float 18 (.float 19 (.float 20 (.one 21 (.float 22 (.float 23 .done)))))))))))))))))))))))) (by kernel_rfl) (by kernel_rfl) (fun _ _ d _ _ h => by cases d <;> exact h) ⟨(Below.refl _ _).drew, cc, hbl⟩ ?_
        repeat (first
          | (refine wpTr_fskip (by simp only [List.getElem?_toArray, List.getElem?_cons_zero, List.getElem?_cons_succ]; rfl) (by rfl) ?_
             simp only [Act.put, List.setIfInBounds_toArray, List.set_cons_zero, List.set_cons_succ])
          | (refine wpTr_float (v := ?_) (by simp only [List.getElem?_toArray, List.getElem?_cons_zero, List.getElem?_cons_succ]; rfl) (by rfl) (fun w' hS => ?_) ?_
             rotate_left
             ((try (obtain ⟨_, hc1, hc2⟩ := hS)); go_simp; first | done | rfl)
             simp only [Act.put, List.setIfInBounds_toArray, List.set_cons_zero, List.set_cons_succ]))
        refine wpTr_one ?_
        refine stepTr_K (by simp only [List.getElem?_toArray, List.getElem?_cons_zero, List.getElem?_cons_succ]; rfl) (by rfl) (fun K hK => ?_)
        go_simp
        refine (CN.out wr.drew).mono ?_
        rintro e w2 ⟨rfl, hw2⟩
        subst hw2
        refine hK.out _ _ ⟨(Below.refl _ _).drew, cc, hbl⟩ ?_
        clear hK K
        try simp only [Act.put, List.setIfInBounds_toArray, List.set_cons_zero, List.set_cons_succ]
        repeat (first
          | (refine wpTr_fskip (by simp only [List.getElem?_toArray, List.getElem?_cons_zero, List.getElem?_cons_succ]; rfl) (by rfl) ?_
             simp only [Act.put, List.setIfInBounds_toArray, List.set_cons_zero, List.set_cons_succ])
          | (refine wpTr_float (v := ?_) (by simp only [List.getElem?_toArray, List.getElem?_cons_zero, List.getElem?_cons_succ]; rfl) (by rfl) (fun w' hS => ?_) ?_
             rotate_left
             ((try (obtain ⟨_, hc1, hc2⟩ := hS)); go_simp; first | done | rfl)
             simp only [Act.put, List.setIfInBounds_toArray, List.set_cons_zero, List.set_cons_succ]))
        refine wpTr_one ?_
        refine wpTr_skip (by simp only [List.getElem?_toArray, List.getElem?_cons_zero, List.getElem?_cons_succ]; rfl) (by rfl) ?_
        try simp only [Act.put, List.setIfInBounds_toArray, List.set_cons_zero, List.set_cons_succ]
        repeat (first
          | (refine wpTr_fskip (by simp only [List.getElem?_toArray, List.getElem?_cons_zero, List.getElem?_cons_succ]; rfl) (by rfl) ?_
             simp only [Act.put, List.setIfInBounds_toArray, List.set_cons_zero, List.set_cons_succ])
          | (refine wpTr_float (v := ?_) (by simp only [List.getElem?_toArray, List.getElem?_cons_zero, List.getElem?_cons_succ]; rfl) (by rfl) (fun w' hS => ?_) ?_
             rotate_left
             ((try (obtain ⟨_, hc1, hc2⟩ := hS)); go_simp; first | done | rfl)
             simp only [Act.put, List.setIfInBounds_toArray, List.set_cons_zero, List.set_cons_succ]))
        refine wpTr_one ?_
        refine wpTr_skip (by simp only [List.getElem?_toArray, List.getElem?_cons_zero, List.getElem?_cons_succ]; rfl) (by rfl) ?_
        try simp only [Act.put, List.setIfInBounds_toArray, List.set_cons_zero, List.set_cons_succ]
        repeat (first
          | (refine wpTr_fskip (by simp only [List.getElem?_toArray, List.getElem?_cons_zero, List.getElem?_cons_succ]; rfl) (by rfl) ?_
             simp only [Act.put, List.setIfInBounds_toArray, List.set_cons_zero, List.set_cons_succ])
          | (refine wpTr_float (v := ?_) (by simp only [List.getElem?_toArray, List.getElem?_cons_zero, List.getElem?_cons_succ]; rfl) (by rfl) (fun w' hS => ?_) ?_
             rotate_left
             ((try (obtain ⟨_, hc1, hc2⟩ := hS)); go_simp; first | done | rfl)
             simp only [Act.put, List.setIfInBounds_toArray, List.set_cons_zero, List.set_cons_succ]))
        have HBF : Hid (Below w.heap.size w wr.drew) := Lib.hid HB.out.drew
        refine wpTr_done ?_
        go_wp2
        go_ret
        exact ⟨⟨_, rfl⟩, HBF.out⟩
      · refine wp_region_tree (fun w' => Below wr.heap.size wr w' ∧ w'.cell? ⟨b, o + k, none⟩ = some (.string ⟨s.toArray⟩) ∧ b < w'.heap.size) (.float 0 (.float 1 (.float 2 (.float 3 (.one 4 (.float 5 (.float 6 (.float 7 (.float 8 (.float 9 (.float 10 (.one 11 (.float 12 (.float 13 (.float 14 (.float 15 (.float 16 (.float 17 (.float 18 (.float 19 (.float 20 (.one 21 (.float 22 (.float 23 .done)))))))))))))))))))))))) (by kernel_rfl) (by kernel_rfl) (fun _ _ d _ _ h => by cases d <;> exact h) ⟨(Below.refl _ _).drew, cc, hbl⟩ ?_
        repeat (first
          | (refine wpTr_fskip (by simp only [List.getElem?_toArray, List.getElem?_cons_zero, List.getElem?_cons_succ]; rfl) (by rfl) ?_
             simp only [Act.put, List.setIfInBounds_toArray, List.set_cons_zero, List.set_cons_succ])
          | (refine wpTr_float (v := ?_) (by simp only [List.getElem?_toArray, List.getElem?_cons_zero, List.getElem?_cons_succ]; rfl) (by rfl) (fun w' hS => ?_) ?_
             rotate_left
             ((try (obtain ⟨_, hc1, hc2⟩ := hS)); go_simp; first | done | rfl)
             simp only [Act.put, List.setIfInBounds_toArray, List.set_cons_zero, List.set_cons_succ]))
        refine wpTr_one ?_
        refine stepTr_K (by simp only [List.getElem?_toArray, List.getElem?_cons_zero, List.getElem?_cons_succ]; rfl) (by rfl) (fun K hK => ?_)
        go_simp
        refine (CN.out wr.drew).mono ?_
        rintro e w2 ⟨rfl, hw2⟩
        subst hw2
        refine hK.out _ _ ⟨(Below.refl _ _).drew, cc, hbl⟩ ?_
        clear hK K
        try simp only [Act.put, List.setIfInBounds_toArray, List.set_cons_zero, List.set_cons_succ]
        repeat (first
          | (refine wpTr_fskip (by simp only [List.getElem?_toArray, List.getElem?_cons_zero, List.getElem?_cons_succ]; rfl) (by rfl) ?_
             simp only [Act.put, List.setIfInBounds_toArray, List.set_cons_zero, List.set_cons_succ])
          | (refine wpTr_float (v := ?_) (by simp only [List.getElem?_toArray, List.getElem?_cons_zero, List.getElem?_cons_succ]; rfl) (by rfl) (fun w' hS => ?_) ?_
             rotate_left
             ((try (obtain ⟨_, hc1, hc2⟩ := hS)); go_simp; first | done | rfl)
             simp only [Act.put, List.setIfInBounds_toArray, List.set_cons_zero, List.set_cons_succ]))
        refine wpTr_one ?_
        refine stepTr_K (by simp only [List.getElem?_toArray, List.getElem?_cons_zero, List.getElem?_cons_succ]; rfl) (by rfl) (fun K hK => ?_)
        go_simp
        refine (CW.out wr.drew).mono ?_
        rintro e w3 ⟨⟨v, rfl⟩, hb3⟩
        have hb3x : Below wr.heap.size wr w3 := (Below.refl _ _).drew.trans hb3
        have HB3 : Hid (Below w.heap.size w w3) := Lib.hid (HB.out.trans (hb3x.mono HB.out.size))
        have hS3 : Hid (Below wr.heap.size wr w3 ∧ w3.cell? ⟨b, o + k, none⟩ = some (.string ⟨s.toArray⟩) ∧ b < w3.heap.size) := Lib.hid ⟨hb3x, by rw [hb3x.cell hbl]; exact cc, Nat.lt_of_lt_of_le hbl hb3x.size⟩
        refine hK.out _ _ hS3.out ?_
        clear hK K hb3 hb3x
        try simp only [Act.put, List.setIfInBounds_toArray, List.set_cons_zero, List.set_cons_succ]
        cases v
        · repeat (first
            | (refine wpTr_fskip (by simp only [List.getElem?_toArray, List.getElem?_cons_zero, List.getElem?_cons_succ]; rfl) (by rfl) ?_
               simp only [Act.put, List.setIfInBounds_toArray, List.set_cons_zero, List.set_cons_succ])
            | (refine wpTr_float (v := ?_) (by simp only [List.getElem?_toArray, List.getElem?_cons_zero, List.getElem?_cons_succ]; rfl) (by rfl) (fun w' hS => ?_) ?_
               rotate_left
               ((try (obtain ⟨_, hc1, hc2⟩ := hS)); go_simp; first | done | rfl)
               simp only [Act.put, List.setIfInBounds_toArray, List.set_cons_zero, List.set_cons_succ]))
          refine wpTr_one ?_
          refine stepTr_K (by simp only [List.getElem?_toArray, List.getElem?_cons_zero, List.getElem?_cons_succ]; rfl) (by rfl) (fun K hK => ?_)
          go_simp
          refine (CI.out w3 hS3.out.1).mono ?_
          rintro e w4 ⟨⟨iv, rfl⟩, hw4⟩
          subst hw4
          refine hK.out _ _ hS3.out ?_
          clear hK K
          try simp only [Act.put, List.setIfInBounds_toArray, List.set_cons_zero, List.set_cons_succ]
          by_cases hiv : 0 ≤ iv
          · have e1 : decide (0 ≤ iv) = true := decide_eq_true hiv
            repeat (first
              | (refine wpTr_fskip (by simp only [List.getElem?_toArray, List.getElem?_cons_zero, List.getElem?_cons_succ]; rfl) (by rfl) ?_
                 simp only [Act.put, List.setIfInBounds_toArray, List.set_cons_zero, List.set_cons_succ])
              | (refine wpTr_float (v := ?_) (by simp only [List.getElem?_toArray, List.getElem?_cons_zero, List.getElem?_cons_succ]; rfl) (by rfl) (fun w' hS => ?_) ?_
                 rotate_left
                 ((try (obtain ⟨_, hc1, hc2⟩ := hS)); go_simp; first | done | rfl)
                 simp only [Act.put, List.setIfInBounds_toArray, List.set_cons_zero, List.set_cons_succ]))
            refine wpTr_done ?_
            go_wp2
            go_ret
            exact ⟨⟨_, rfl⟩, HB3.out⟩
          · have e1 : decide (0 ≤ iv) = false := decide_eq_false hiv
            repeat (first
              | (refine wpTr_fskip (by simp only [List.getElem?_toArray, List.getElem?_cons_zero, List.getElem?_cons_succ]; rfl) (by rfl) ?_
                 simp only [Act.put, List.setIfInBounds_toArray, List.set_cons_zero, List.set_cons_succ])
              | (refine wpTr_float (v := ?_) (by simp only [List.getElem?_toArray, List.getElem?_cons_zero, List.getElem?_cons_succ]; rfl) (by rfl) (fun w' hS => ?_) ?_
                 rotate_left
                 ((try (obtain ⟨_, hc1, hc2⟩ := hS)); go_simp; first | done | rfl)
                 simp only [Act.put, List.setIfInBounds_toArray, List.set_cons_zero, List.set_cons_succ]))
            refine wpTr_done ?_
            go_wp2
            go_roundw
            case rel => exact ⟨k + 1, by omega, by go_num, HB3⟩
            case measure => simp [intOf]; omega
        · repeat (first
            | (refine wpTr_fskip (by simp only [List.getElem?_toArray, List.getElem?_cons_zero, List.getElem?_cons_succ]; rfl) (by rfl) ?_
               simp only [Act.put, List.setIfInBounds_toArray, List.set_cons_zero, List.set_cons_succ])
            | (refine wpTr_float (v := ?_) (by simp only [List.getElem?_toArray, List.getElem?_cons_zero, List.getElem?_cons_succ]; rfl) (by rfl) (fun w' hS => ?_) ?_
               rotate_left
               ((try (obtain ⟨_, hc1, hc2⟩ := hS)); go_simp; first | done | rfl)
               simp only [Act.put, List.setIfInBounds_toArray, List.set_cons_zero, List.set_cons_succ]))
          refine wpTr_one ?_
          refine wpTr_skip (by simp only [List.getElem?_toArray, List.getElem?_cons_zero, List.getElem?_cons_succ]; rfl) (by rfl) ?_
          try simp only [Act.put, List.setIfInBounds_toArray, List.set_cons_zero, List.set_cons_succ]
          repeat (first
            | (refine wpTr_fskip (by simp only [List.getElem?_toArray, List.getElem?_cons_zero, List.getElem?_cons_succ]; rfl) (by rfl) ?_
               simp only [Act.put, List.setIfInBounds_toArray, List.set_cons_zero, List.set_cons_succ])
            | (refine wpTr_float (v := ?_) (by simp only [List.getElem?_toArray, List.getElem?_cons_zero, List.getElem?_cons_succ]; rfl) (by rfl) (fun w' hS => ?_) ?_
               rotate_left
               ((try (obtain ⟨_, hc1, hc2⟩ := hS)); go_simp; first | done | rfl)
               simp only [Act.put, List.setIfInBounds_toArray, List.set_cons_zero, List.set_cons_succ]))
          refine wpTr_done ?_
          go_wp2
          go_ret
          exact ⟨⟨_, rfl⟩, HB3.out⟩
    · go_wp2
      go_ret
      exact ⟨⟨_, rfl⟩, HB.out⟩
end Go.Proofs.Ytkoojoogddndnaa
namespace Go.Proofs.Ytkoojoogddndnaa
open Go.RowKit Go.UtYtkoojoogddndnaa
/-- the call returns whether, whatever -/
def RetB (w : World) (e : Ending) (w' : World) : Prop := ∃ v : Bool, e = .returned (.bool v) ∧ Below w.heap.size w w'
set_option maxRecDepth 100000 in
set_option maxHeartbeats 8000000 in
theorem right28_any : ∀ (p : Pat) (A1 : Option Addr) (c1 : Nat) (A2 : Option Addr) (c2 : Nat) (nn dp : Nat) (w : World), nn ≤ 100 → dp ≤ 1000000 → PvAt w w.heap.size p A1 c1 A2 c2 →
    Calls Try.prog 68 #[.agg #[.int .i64 p.kind, .slice A1 p.cls.length c1, .slice A2 p.subs.length c2], .int .i64 (nn : Int), .int .i64 (dp : Int)] w (RetB w) := by
  intro p
  induction p using Pat.ind with
  | h k cl s ih =>
    intro A1 c1 A2 c2 nn dp w hnn hdp hP
    have IH := Lib.hid ih
    simp only [Pat.kind, Pat.cls, Pat.subs]
    have HPS : Hid (PsAt w w.heap.size A2 c2 s) := Lib.hid hP.2.2
    have HPC : Hid (Row w w.heap.size A1 (ints cl)) := Lib.hid hP.2.1
    have hnc31 : cl.length ≤ 9223372036854775807 := by have := hP.1; simp only [maxLen, Pat.cls] at this; omega
    obtain ⟨nc, hnc⟩ : ∃ n, cl.length = n := ⟨_, rfl⟩
    obtain ⟨n, hn⟩ : ∃ n, s.length = n := ⟨_, rfl⟩
    have HN := Lib.hid hn
    have HNC := Lib.hid hnc
    rw [hnc] at hnc31
    rw [hnc, hn]
    obtain ⟨w1, hw1, HB1, HK1⟩ := boxV w 77 #[.int .i64 k, .slice A1 nc c1, .slice A2 n c2]
    have p0 := HK1.out.cell 0
    have p1 := HK1.out.cell 1
    have p2 := HK1.out.cell 2
    have pl := HK1.out.lt
    simp only [List.getElem?_toArray, List.getElem?_cons_zero, List.getElem?_cons_succ] at p0 p1 p2
    have hn31 : n ≤ 9223372036854775807 := by have := HPS.out.1; rw [HN.out] at this; simp only [maxLen] at this; omega
    clear ih hP hnc hn
    have hbs1 := HB1.out.size
    by_cases hd0 : dp < 1
    · have d1 : decide (dp < 1) = true := decide_eq_true hd0
      have d1' : decide ((dp : Int) < 1) = true := decide_eq_true (by omega)
      go_enter Try.func68, Try.ntmps68
      go_upto_region 1 with fail
      rw [← hw1]
      clear hw1
      go_wp2
      go_ret
      exact ⟨false, rfl, HB1.out⟩
    have d1 : decide (dp < 1) = false := decide_eq_false hd0
    have d1' : decide ((dp : Int) < 1) = false := decide_eq_false (by omega)
    by_cases hk1 : k = 1
    · subst hk1
      by_cases h0 : nc = 0
      · subst h0
        go_enter Try.func68, Try.ntmps68
        go_upto_region 1 with fail
        rw [← hw1]
        clear hw1
        go_wp2
        go_ret
        exact ⟨false, rfl, HB1.out⟩
      have e0 : ((nc : Int) == 0) = false := by simp; omega
      by_cases hs0 : 0 < n
      · have d2 : decide (0 < n) = true := decide_eq_true hs0
        have d2' : decide (0 < (n : Int)) = true := decide_eq_true (by omega)
        go_enter Try.func68, Try.ntmps68
        go_upto_region 1 with fail
        rw [← hw1]
        clear hw1
        go_wp2
        go_ret
        exact ⟨false, rfl, HB1.out⟩
      have d2 : decide (0 < n) = false := decide_eq_false hs0
      have d2' : decide (0 < (n : Int)) = false := decide_eq_false (by omega)
      obtain ⟨b, o, z, rfl, hb, hz, cz⟩ := (HPC.out.below HB1.out).at_int (k := 0) (by rw [HNC.out]; omega)
      simp only [Nat.add_zero] at cz
      have hbl : b < w1.heap.size := by omega
      have hnc0 : 0 < nc := by omega
      by_cases hz0 : z < 0
      · have d3 : decide (z < 0) = true := decide_eq_true hz0
        go_enter Try.func68, Try.ntmps68
        go_upto_region 1 with fail
        rw [← hw1]
        clear hw1
        go_wp2
        go_ret
        exact ⟨false, rfl, HB1.out⟩
      have d3 : decide (z < 0) = false := decide_eq_false hz0
      go_enter Try.func68, Try.ntmps68
      go_upto_region 1 with fail
      rw [← hw1]
      clear hw1
      go_wp2
      go_loopw [7] (fun iv wr => ∃ (j : Nat), 1 ≤ j ∧ j ≤ nc ∧ iv = .int .i64 (j : Int) ∧ ∃ q, wr = w1.drewN q) (fun i _ => nc - (intOf i).toNat)
      case atStart => exact ⟨1, by omega, by omega, rfl, 0, rfl⟩
      case round =>
        obtain ⟨j, hj1, hj2, rfl, q, hw⟩ := hrel
        by_cases hjn : j < nc
        · obtain ⟨i, rfl⟩ : ∃ i, j = i + 1 := ⟨j - 1, by omega⟩
          obtain ⟨b', o', x, e, hb', hx, cx⟩ := (HPC.out.below HB1.out).at_int (k := i + 1) (by rw [HNC.out]; omega)
          obtain ⟨b'', o'', x', e', hb'', hx', cx'⟩ := (HPC.out.below HB1.out).at_int (k := i) (by rw [HNC.out]; omega)
          cases e
          cases e'
          have s1 : (i : Int) + 1 - 1 = (i : Int) := by omega
          have hi : i < nc := by omega
          have hii : (i : Int) < (nc : Int) := by omega
          subst hw
          by_cases hxx : x ≤ x'
          · have e1 : decide (x ≤ x') = true := decide_eq_true hxx
            go_wp2
            go_quiet (fail)
            go_wp2
            go_ret
            exact ⟨false, rfl, by first | exact below_drewN (below_drewN HB1.out _) _ | exact below_drewN HB1.out _⟩
          · have e1 : decide (x ≤ x') = false := decide_eq_false hxx
            go_wp2
            go_quiet (fail)
            go_wp2
            go_roundw
            case rel => exact ⟨i + 1 + 1, by omega, by omega, by go_num, _, rfl⟩
            case measure => simp [intOf]; omega
        · obtain rfl : j = nc := by omega
          obtain ⟨i, rfl⟩ : ∃ i, j = i + 1 := ⟨j - 1, by omega⟩
          obtain ⟨b'', o'', x', e', hb'', hx', cx'⟩ := (HPC.out.below HB1.out).at_int (k := i) (by rw [HNC.out]; omega)
          cases e'
          have s1 : (i : Int) + 1 - 1 = (i : Int) := by omega
          have hi : i < i + 1 := by omega
          have f1 : decide ((nn : Int) < 0) = false := decide_eq_false (by omega)
          subst hw
          by_cases g1 : x' < (nn : Int)
          · have e1 : decide (x' < (nn : Int)) = true := decide_eq_true g1
            go_wp2
            go_ret
            exact ⟨_, rfl, below_drewN HB1.out _⟩
          · have e1 : decide (x' < (nn : Int)) = false := decide_eq_false g1
            by_cases g2 : x' ≤ (nn : Int) + 1
            · have e2 : decide (x' ≤ (nn : Int) + 1) = true := decide_eq_true g2
              go_wp2
              go_ret
              exact ⟨_, rfl, below_drewN HB1.out _⟩
            · have e2 : decide (x' ≤ (nn : Int) + 1) = false := decide_eq_false g2
              go_wp2
              go_ret
              exact ⟨_, rfl, below_drewN HB1.out _⟩
    have k1 : (k == 1) = false := by simpa using hk1
    by_cases hk2 : k < 2
    · have k2 : decide (k < 2) = true := decide_eq_true hk2
      go_enter Try.func68, Try.ntmps68
      go_upto_region 1 with fail
      rw [← hw1]
      clear hw1
      go_wp2
      go_ret
      exact ⟨false, rfl, HB1.out⟩
    have k2 : decide (k < 2) = false := decide_eq_false hk2
    by_cases hk4 : 4 < k
    · have k4 : decide (4 < k) = true := decide_eq_true hk4
      go_enter Try.func68, Try.ntmps68
      go_upto_region 1 with fail
      rw [← hw1]
      clear hw1
      go_wp2
      go_ret
      exact ⟨false, rfl, HB1.out⟩
    have k4 : decide (4 < k) = false := decide_eq_false hk4
    by_cases h0 : 0 < nc
    · have d2 : decide (0 < nc) = true := decide_eq_true h0
      have d2' : decide (0 < (nc : Int)) = true := decide_eq_true (by omega)
      go_enter Try.func68, Try.ntmps68
      go_upto_region 1 with fail
      rw [← hw1]
      clear hw1
      go_wp2
      go_ret
      exact ⟨false, rfl, HB1.out⟩
    have d2 : decide (0 < nc) = false := decide_eq_false h0
    have d2' : decide (0 < (nc : Int)) = false := decide_eq_false (by omega)
    have hk3 : k = 2 ∨ k = 3 ∨ k = 4 := by omega
    rcases hk3 with rfl | rfl | rfl
    · by_cases hq1 : n = 1
      · subst hq1
        go_enter Try.func68, Try.ntmps68
        go_upto_region 1 with fail
        rw [← hw1]
        clear hw1
        go_wp2
        go_ret
        exact ⟨false, rfl, HB1.out⟩
      have f1 : ((n : Int) == 1) = false := by simp; omega
      go_enter Try.func68, Try.ntmps68
      go_upto_region 1 with fail
      rw [← hw1]
      clear hw1
      go_wp2
      clear p0 p1 p2 pl
      go_loopw [9] (fun iv wr => ∃ (j : Nat), j ≤ n ∧ iv = .int .i64 (j : Int) ∧ Hid (Below w1.heap.size w1 wr)) (fun i _ => n - (intOf i).toNat)
      case atStart => exact ⟨0, by omega, rfl, Below.refl _ _⟩
      case round =>
        obtain ⟨j, hj, rfl, HB⟩ := hrel
        have HBw := Lib.hid (HB1.out.trans (HB.out.mono hbs1))
        have HKr := Lib.hid (HK1.out.after HB.out)
        have p0 := HKr.out.cell 0
        have p1 := HKr.out.cell 1
        have p2 := HKr.out.cell 2
        have pl := HKr.out.lt
        simp only [List.getElem?_toArray, List.getElem?_cons_zero, List.getElem?_cons_succ] at p0 p1 p2
        by_cases hjn : j < n
        · obtain ⟨b, o, q, B1, e1, B2, e2, rfl, hb, hq, q0, q1, q2, g1, g2, g3⟩ := (HPS.out.below HBw.out).at_ (k := j) (by rw [HN.out]; exact hjn)
          have hbl : b < wr.heap.size := by have := HBw.out.size; omega
          obtain ⟨d', hd'⟩ : ∃ d' : Nat, dp = d' + 1 := ⟨dp - 1, by omega⟩
          have CQ := IH.out q (List.mem_of_getElem? hq.out) B1 e1 B2 e2 nn d' wr hnn (by omega) ⟨g1, g2.lt, g3.lt⟩
          rw [show (d' : Int) = (dp : Int) - 1 by omega] at CQ
          obtain ⟨qk, hqk⟩ : ∃ z, q.kind = z := ⟨_, rfl⟩
          obtain ⟨qn, hqn⟩ : ∃ z, q.cls.length = z := ⟨_, rfl⟩
          obtain ⟨qs, hqs⟩ : ∃ z, q.subs.length = z := ⟨_, rfl⟩
          rw [hqk, hqn, hqs] at CQ
          rw [hqk] at q0
          rw [hqn] at q1
          rw [hqs] at q2
          replace CQ := Lib.hid CQ
          clear hqk hqn hqs g1 g2 g3 hd'
          go_wp2_with fail
          refine CQ.out.mono ?_
          rintro e w2 ⟨v, rfl, hb2⟩
          have HB2 : Hid (Below w1.heap.size w1 w2) := HB.out.trans (hb2.mono HB.out.size)
          have HB2w := Lib.hid (HB1.out.trans (HB2.out.mono hbs1))
          clear hb2
          cases v
          · go_wp2
            go_ret
            exact ⟨false, rfl, HB2w.out⟩
          · go_wp2
            go_roundw
            case rel => exact ⟨j + 1, by omega, by go_num, HB2⟩
            case measure => simp [intOf] <;> omega
        · go_wp2
          go_ret
          exact ⟨true, rfl, HBw.out⟩
    · by_cases hq1 : n < 2
      · have f1 : decide (n < 2) = true := decide_eq_true hq1
        have f1' : decide ((n : Int) < 2) = true := decide_eq_true (by omega)
        go_enter Try.func68, Try.ntmps68
        go_upto_region 1 with fail
        rw [← hw1]
        clear hw1
        go_wp2
        go_ret
        exact ⟨false, rfl, HB1.out⟩
      have f1 : decide (n < 2) = false := decide_eq_false hq1
      have f1' : decide ((n : Int) < 2) = false := decide_eq_false (by omega)
      go_enter Try.func68, Try.ntmps68
      go_upto_region 1 with fail
      rw [← hw1]
      clear hw1
      go_wp2
      clear p0 p1 p2 pl
      go_loopw [9] (fun iv wr => ∃ (j : Nat), j ≤ n ∧ iv = .int .i64 (j : Int) ∧ Hid (Below w1.heap.size w1 wr)) (fun i _ => n - (intOf i).toNat)
      case atStart => exact ⟨0, by omega, rfl, Below.refl _ _⟩
      case round =>
        obtain ⟨j, hj, rfl, HB⟩ := hrel
        have HBw := Lib.hid (HB1.out.trans (HB.out.mono hbs1))
        have HKr := Lib.hid (HK1.out.after HB.out)
        have p0 := HKr.out.cell 0
        have p1 := HKr.out.cell 1
        have p2 := HKr.out.cell 2
        have pl := HKr.out.lt
        simp only [List.getElem?_toArray, List.getElem?_cons_zero, List.getElem?_cons_succ] at p0 p1 p2
        by_cases hjn : j < n
        · obtain ⟨b, o, q, B1, e1, B2, e2, rfl, hb, hq, q0, q1, q2, g1, g2, g3⟩ := (HPS.out.below HBw.out).at_ (k := j) (by rw [HN.out]; exact hjn)
          have hbl : b < wr.heap.size := by have := HBw.out.size; omega
          obtain ⟨d', hd'⟩ : ∃ d' : Nat, dp = d' + 1 := ⟨dp - 1, by omega⟩
          have CQ := IH.out q (List.mem_of_getElem? hq.out) B1 e1 B2 e2 nn d' wr hnn (by omega) ⟨g1, g2.lt, g3.lt⟩
          rw [show (d' : Int) = (dp : Int) - 1 by omega] at CQ
          obtain ⟨qk, hqk⟩ : ∃ z, q.kind = z := ⟨_, rfl⟩
          obtain ⟨qn, hqn⟩ : ∃ z, q.cls.length = z := ⟨_, rfl⟩
          obtain ⟨qs, hqs⟩ : ∃ z, q.subs.length = z := ⟨_, rfl⟩
          rw [hqk, hqn, hqs] at CQ
          rw [hqk] at q0
          rw [hqn] at q1
          rw [hqs] at q2
          replace CQ := Lib.hid CQ
          clear hqk hqn hqs g1 g2 g3 hd'
          go_wp2_with fail
          refine CQ.out.mono ?_
          rintro e w2 ⟨v, rfl, hb2⟩
          have HB2 : Hid (Below w1.heap.size w1 w2) := HB.out.trans (hb2.mono HB.out.size)
          have HB2w := Lib.hid (HB1.out.trans (HB2.out.mono hbs1))
          clear hb2
          cases v
          · go_wp2
            go_ret
            exact ⟨false, rfl, HB2w.out⟩
          · go_wp2
            go_roundw
            case rel => exact ⟨j + 1, by omega, by go_num, HB2⟩
            case measure => simp [intOf] <;> omega
        · go_wp2
          go_ret
          exact ⟨true, rfl, HBw.out⟩
    · by_cases hq1 : n = 1
      · have f1 : ((n : Int) != 1) = false := by subst hq1; rfl
        clear hq1
        go_enter Try.func68, Try.ntmps68
        go_upto_region 1 with fail
        rw [← hw1]
        clear hw1
        go_wp2
        clear p0 p1 p2 pl
        go_loopw [9] (fun iv wr => ∃ (j : Nat), j ≤ n ∧ iv = .int .i64 (j : Int) ∧ Hid (Below w1.heap.size w1 wr)) (fun i _ => n - (intOf i).toNat)
        case atStart => exact ⟨0, by omega, rfl, Below.refl _ _⟩
        case round =>
          obtain ⟨j, hj, rfl, HB⟩ := hrel
          have HBw := Lib.hid (HB1.out.trans (HB.out.mono hbs1))
          have HKr := Lib.hid (HK1.out.after HB.out)
          have p0 := HKr.out.cell 0
          have p1 := HKr.out.cell 1
          have p2 := HKr.out.cell 2
          have pl := HKr.out.lt
          simp only [List.getElem?_toArray, List.getElem?_cons_zero, List.getElem?_cons_succ] at p0 p1 p2
          by_cases hjn : j < n
          · obtain ⟨b, o, q, B1, e1, B2, e2, rfl, hb, hq, q0, q1, q2, g1, g2, g3⟩ := (HPS.out.below HBw.out).at_ (k := j) (by rw [HN.out]; exact hjn)
            have hbl : b < wr.heap.size := by have := HBw.out.size; omega
            obtain ⟨d', hd'⟩ : ∃ d' : Nat, dp = d' + 1 := ⟨dp - 1, by omega⟩
            have CQ := IH.out q (List.mem_of_getElem? hq.out) B1 e1 B2 e2 nn d' wr hnn (by omega) ⟨g1, g2.lt, g3.lt⟩
            rw [show (d' : Int) = (dp : Int) - 1 by omega] at CQ
            obtain ⟨qk, hqk⟩ : ∃ z, q.kind = z := ⟨_, rfl⟩
            obtain ⟨qn, hqn⟩ : ∃ z, q.cls.length = z := ⟨_, rfl⟩
            obtain ⟨qs, hqs⟩ : ∃ z, q.subs.length = z := ⟨_, rfl⟩
            rw [hqk, hqn, hqs] at CQ
            rw [hqk] at q0
            rw [hqn] at q1
            rw [hqs] at q2
            replace CQ := Lib.hid CQ
            clear hqk hqn hqs g1 g2 g3 hd'
            go_wp2_with fail
            refine CQ.out.mono ?_
            rintro e w2 ⟨v, rfl, hb2⟩
            have HB2 : Hid (Below w1.heap.size w1 w2) := HB.out.trans (hb2.mono HB.out.size)
            have HB2w := Lib.hid (HB1.out.trans (HB2.out.mono hbs1))
            clear hb2
            cases v
            · go_wp2
              go_ret
              exact ⟨false, rfl, HB2w.out⟩
            · go_wp2
              go_roundw
              case rel => exact ⟨j + 1, by omega, by go_num, HB2⟩
              case measure => simp [intOf] <;> omega
          · go_wp2
            go_ret
            exact ⟨true, rfl, HBw.out⟩
      have f1 : ((n : Int) != 1) = true := by simp; omega
      go_enter Try.func68, Try.ntmps68
      go_upto_region 1 with fail
      rw [← hw1]
      clear hw1
      go_wp2
      go_ret
      exact ⟨false, rfl, HB1.out⟩
end Go.Proofs.Ytkoojoogddndnaa
namespace Go.Proofs.Ytkoojoogddndnaa
open Go.RowKit Go.UtYtkoojoogddndnaa
/-- the call returns a number, whatever -/
def RetE (w : World) (e : Ending) (w' : World) : Prop := ∃ v : Int, e = .returned (.int .i64 v) ∧ Below w.heap.size w w'
set_option maxRecDepth 100000 in
set_option maxHeartbeats 8000000 in
theorem check28r_any (A A' : Option Addr) (c c' : Nat) (l : List Nm) (rs : List RU) (w : World) (hS : StrsAt w w.heap.size A l) (hlc : l.length ≤ c) (hR : RusAt w w.heap.size A' c' rs) (hl6 : l.length ≤ 6) (hr6 : rs.length ≤ 6) :
    Calls Try.prog 51 #[.agg #[.slice A l.length c, .slice A' rs.length c']] w (RetE w) := by
  have HR := Lib.hid hR
  have CN := Lib.hid (fun (u : World) (hu : Below w.heap.size w u) => named28_any A c l u (hS.below hu).lt hlc hl6)
  have CP := Lib.hid parts28_any
  have CG := Lib.hid right28_any
  unfold RetB at CG
  obtain ⟨nl, hnl⟩ : ∃ n, l.length = n := ⟨_, rfl⟩
  obtain ⟨n, hn⟩ : ∃ n, rs.length = n := ⟨_, rfl⟩
  have HN := Lib.hid hn
  rw [hnl] at CN hl6
  rw [hn] at hr6
  rw [hnl, hn]
  obtain ⟨w1, hw1, HB1, HK1⟩ := boxV w 56 #[.slice A nl c, .slice A' n c']
  obtain ⟨p0, p1, pl⟩ := blk2 HK1.out
  have hbs1 := HB1.out.size
  clear hR hnl hn hS hlc
  go_enter Try.func51, Try.ntmps51
  go_upto_region 1 with fail
  rw [← hw1]
  clear hw1
  go_wp2_with fail
  refine (CN.out w1 HB1.out).mono ?_
  rintro e wa ⟨⟨v0, rfl⟩, hba⟩
  have HBA := Lib.hid (HB1.out.trans (hba.mono HB1.out.size))
  have HKA := Lib.hid (HK1.out.after hba)
  clear hba p0 p1 pl
  obtain ⟨p0, p1, pl⟩ := blk2 HKA.out
  have hbsa := HBA.out.size
  cases v0
  · go_wp2
    go_ret
    exact ⟨6, rfl, HBA.out⟩
  go_wp2
  clear p0 p1 pl
  go_loopw [4, 5] (fun mv iv wr => ∃ (j m : Nat), j ≤ n ∧ iv = .int .i64 (j : Int) ∧ mv = .int .i64 (m : Int) ∧ m ≤ 8000 ∧ Hid (Below wa.heap.size wa wr)) (fun _ i _ => n - (intOf i).toNat)
  case atStart => exact ⟨0, 0, by omega, rfl, rfl, by omega, Below.refl _ _⟩
  case round =>
    obtain ⟨j, m, hj, rfl, rfl, hm, HB⟩ := hrel
    have HBw := Lib.hid (HBA.out.trans (HB.out.mono hbsa))
    have HKr := Lib.hid (HKA.out.after HB.out)
    obtain ⟨p0, p1, pl⟩ := blk2 HKr.out
    by_cases hjn : j < n
    · obtain ⟨b, o, r, A1, c1, A2, c2, A3, c3, A4, c4, rfl, hb, hr, q0, ⟨q1, q2, q3, q4, q5, q6⟩, gl, gr⟩ := (HR.out.below HBw.out).at_ (k := j) (by rw [HN.out]; exact hjn)
      have hbl : b < wr.heap.size := by have := HBw.out.size; omega
      obtain ⟨w2, hw2, HB2', HK2⟩ := boxV wr 79 #[.int .i64 r.act, .int .i64 r.left.kind, .slice A1 r.left.cls.length c1, .slice A2 r.left.subs.length c2, .int .i64 r.right.kind, .slice A3 r.right.cls.length c3, .slice A4 r.right.subs.length c4]
      have HB2 := Lib.hid (HB.out.trans (HB2'.out.mono HB.out.size))
      have HB2w := Lib.hid (HBA.out.trans (HB2.out.mono hbsa))
      have HGL := Lib.hid (fun (u : World) (hu : Below wr.heap.size wr u) => ((gl.lt).below hu).lt)
      have HGR := Lib.hid (fun (u : World) (hu : Below wr.heap.size wr u) => ((gr.lt).below hu).lt)
      have CL := Lib.hid (fun (u : World) (hu : Below wr.heap.size wr u) => CP.out r.left A1 c1 A2 c2 4000 u (by omega) (HGL.out u hu))
      have CR := Lib.hid (fun (u : World) (hu : Below wr.heap.size wr u) => CP.out r.right A3 c3 A4 c4 4000 u (by omega) (HGR.out u hu))
      have DL := Lib.hid (fun (u : World) (hu : Below wr.heap.size wr u) => CG.out r.left A1 c1 A2 c2 nl 16 u (by omega) (by omega) (HGL.out u hu))
      have DR := Lib.hid (fun (u : World) (hu : Below wr.heap.size wr u) => CG.out r.right A3 c3 A4 c4 nl 16 u (by omega) (by omega) (HGR.out u hu))
      obtain ⟨lk, hlk⟩ : ∃ z, r.left.kind = z := ⟨_, rfl⟩
      obtain ⟨ln, hln⟩ : ∃ z, r.left.cls.length = z := ⟨_, rfl⟩
      obtain ⟨ls, hls⟩ : ∃ z, r.left.subs.length = z := ⟨_, rfl⟩
      obtain ⟨rk, hrk⟩ : ∃ z, r.right.kind = z := ⟨_, rfl⟩
      obtain ⟨rn, hrn⟩ : ∃ z, r.right.cls.length = z := ⟨_, rfl⟩
      obtain ⟨rs', hrs⟩ : ∃ z, r.right.subs.length = z := ⟨_, rfl⟩
      obtain ⟨ra, hra⟩ : ∃ z, r.act = z := ⟨_, rfl⟩
      rw [hlk, hln, hls] at CL DL
      rw [hrk, hrn, hrs] at CR DR
      rw [hra] at q0
      rw [hlk] at q1
      rw [hln] at q2
      rw [hls] at q3
      rw [hrk] at q4
      rw [hrn] at q5
      rw [hrs] at q6
      rw [hra, hlk, hln, hls, hrk, hrn, hrs] at HK2 hw2
      clear hra hlk hln hls hrk hrn hrs gl gr HGL HGR
      have CK := Lib.hid (fun (u : World) (hu : Below w2.heap.size w2 u) => (HK2.out.after hu))
      have HX2 : Hid (Below w2.heap.size w2 w2) := Below.refl _ _
      have HR2 : Hid (Below wr.heap.size wr w2) := HB2'.out
      have HBbad : Hid (Below w.heap.size w (wr.alloc (.cells #[.int .i64 ra, .int .i64 lk, .slice A1 ln c1, .slice A2 ls c2, .int .i64 rk, .slice A3 rn c3, .slice A4 rs' c4] 79))) := Lib.hid (by rw [← hw2]; exact HB2w.out)
      by_cases g1 : ra < 1
      · have e1 : decide (ra < 1) = true := decide_eq_true g1
        go_wp2
        go_ret
        exact ⟨8, rfl, HBbad.out⟩
      have e1 : decide (ra < 1) = false := decide_eq_false g1
      by_cases g2 : 3 < ra
      · have e2 : decide (3 < ra) = true := decide_eq_true g2
        go_wp2
        go_ret
        exact ⟨8, rfl, HBbad.out⟩
      have e2 : decide (3 < ra) = false := decide_eq_false g2
      clear HBbad
      go_wp2_with fail
      rw [← hw2]
      clear hw2
      refine (DL.out w2 HR2.out).mono ?_
      rintro e w3 ⟨v3, rfl, hb3⟩
      have HX3 : Hid (Below w2.heap.size w2 w3) := hb3
      have HR3 : Hid (Below wr.heap.size wr w3) := HB2'.out.trans (HX3.out.mono HB2'.out.size)
      have HW3 := Lib.hid (HB2w.out.trans (HX3.out.mono HB2w.out.size))
      clear hb3
      cases v3
      · go_wp2
        go_ret
        exact ⟨8, rfl, HW3.out⟩
      obtain ⟨t0, t1, t2, t3, t4, t5, t6⟩ := (show _ ∧ _ ∧ _ ∧ _ ∧ _ ∧ _ ∧ _ from ⟨(CK.out w3 HX3.out).cell 0, (CK.out w3 HX3.out).cell 1, (CK.out w3 HX3.out).cell 2, (CK.out w3 HX3.out).cell 3, (CK.out w3 HX3.out).cell 4, (CK.out w3 HX3.out).cell 5, (CK.out w3 HX3.out).cell 6⟩)
      have tl := (CK.out w3 HX3.out).lt
      simp only [List.getElem?_toArray, List.getElem?_cons_zero, List.getElem?_cons_succ] at t0 t1 t2 t3 t4 t5 t6
      go_wp2_with fail
      refine (DR.out w3 HR3.out).mono ?_
      rintro e w4 ⟨v4, rfl, hb4⟩
      have HX4 : Hid (Below w2.heap.size w2 w4) := HX3.out.trans (hb4.mono HX3.out.size)
      have HR4 : Hid (Below wr.heap.size wr w4) := HB2'.out.trans (HX4.out.mono HB2'.out.size)
      have HW4 := Lib.hid (HB2w.out.trans (HX4.out.mono HB2w.out.size))
      clear hb4
      clear t0 t1 t2 t3 t4 t5 t6 tl
      cases v4
      · go_wp2
        go_ret
        exact ⟨8, rfl, HW4.out⟩
      obtain ⟨t0, t1, t2, t3, t4, t5, t6⟩ := (show _ ∧ _ ∧ _ ∧ _ ∧ _ ∧ _ ∧ _ from ⟨(CK.out w4 HX4.out).cell 0, (CK.out w4 HX4.out).cell 1, (CK.out w4 HX4.out).cell 2, (CK.out w4 HX4.out).cell 3, (CK.out w4 HX4.out).cell 4, (CK.out w4 HX4.out).cell 5, (CK.out w4 HX4.out).cell 6⟩)
      have tl := (CK.out w4 HX4.out).lt
      simp only [List.getElem?_toArray, List.getElem?_cons_zero, List.getElem?_cons_succ] at t0 t1 t2 t3 t4 t5 t6
      go_wp2
      refine wp_region_tree (fun w' => Below w2.heap.size w2 w') (.float 0 (.float 1 (.float 2 (.float 5 (.float 6 (.one 3 (.float 4 (.one 7 (.float 8 (.float 9 (.float 10 .done))))))))))) (by kernel_rfl) (by kernel_rfl) (fun _ _ d _ _ h => by cases d <;> exact h) HX4.out.drew ?_
      repeat (first
        | (refine wpTr_fskip (by simp only [List.getElem?_toArray, List.getElem?_cons_zero, List.getElem?_cons_succ]; rfl) (by rfl) ?_
           simp only [Act.put, List.setIfInBounds_toArray, List.set_cons_zero, List.set_cons_succ])
        | (refine wpTr_float (v := ?_) (by simp only [List.getElem?_toArray, List.getElem?_cons_zero, List.getElem?_cons_succ]; rfl) (by rfl) (fun w' hS => ?_) ?_
           rotate_left
           ((try (obtain ⟨t0', t1', t2', t3', t4', t5', t6'⟩ := (show _ ∧ _ ∧ _ ∧ _ ∧ _ ∧ _ ∧ _ from ⟨(CK.out _ hS).cell 0, (CK.out _ hS).cell 1, (CK.out _ hS).cell 2, (CK.out _ hS).cell 3, (CK.out _ hS).cell 4, (CK.out _ hS).cell 5, (CK.out _ hS).cell 6⟩); have tl' := (CK.out _ hS).lt; simp only [List.getElem?_toArray, List.getElem?_cons_zero, List.getElem?_cons_succ] at t0' t1' t2' t3' t4' t5' t6')); go_simp; first | done | rfl)
           simp only [Act.put, List.setIfInBounds_toArray, List.set_cons_zero, List.set_cons_succ]))
      refine wpTr_one ?_
      refine stepTr_K (by simp only [List.getElem?_toArray, List.getElem?_cons_zero, List.getElem?_cons_succ]; rfl) (by rfl) (fun K hK => ?_)
      go_simp
      refine (CL.out w4.drew HR4.out.drew).mono ?_
      rintro e w5 ⟨v5, rfl, ⟨h51, h52, _⟩, hb5⟩
      have hb5x : Below w4.heap.size w4 w5 := (Below.refl _ _).drew.trans hb5
      have HX5 : Hid (Below w2.heap.size w2 w5) := HX4.out.trans (hb5x.mono HX4.out.size)
      have HR5 : Hid (Below wr.heap.size wr w5) := HB2'.out.trans (HX5.out.mono HB2'.out.size)
      refine hK.out _ _ HX5.out ?_
      clear hK K hb5 hb5x
      try simp only [Act.put, List.setIfInBounds_toArray, List.set_cons_zero, List.set_cons_succ]
      repeat (first
        | (refine wpTr_fskip (by simp only [List.getElem?_toArray, List.getElem?_cons_zero, List.getElem?_cons_succ]; rfl) (by rfl) ?_
           simp only [Act.put, List.setIfInBounds_toArray, List.set_cons_zero, List.set_cons_succ])
        | (refine wpTr_float (v := ?_) (by simp only [List.getElem?_toArray, List.getElem?_cons_zero, List.getElem?_cons_succ]; rfl) (by rfl) (fun w' hS => ?_) ?_
           rotate_left
           ((skip); go_simp; first | done | rfl)
           simp only [Act.put, List.setIfInBounds_toArray, List.set_cons_zero, List.set_cons_succ]))
      refine wpTr_one ?_
      refine stepTr_K (by simp only [List.getElem?_toArray, List.getElem?_cons_zero, List.getElem?_cons_succ]; rfl) (by rfl) (fun K hK => ?_)
      go_simp
      refine (CR.out w5 HR5.out).mono ?_
      rintro e w6 ⟨v6, rfl, ⟨h61, h62, _⟩, hb6⟩
      have HX6 : Hid (Below w2.heap.size w2 w6) := HX5.out.trans (hb6.mono HX5.out.size)
      have HR6 : Hid (Below wr.heap.size wr w6) := HB2'.out.trans (HX6.out.mono HB2'.out.size)
      have HB6 : Hid (Below wa.heap.size wa w6) := HB.out.trans (HR6.out.mono HB.out.size)
      refine hK.out _ _ HX6.out ?_
      clear hK K hb6
      try simp only [Act.put, List.setIfInBounds_toArray, List.set_cons_zero, List.set_cons_succ]
      repeat (first
        | (refine wpTr_fskip (by simp only [List.getElem?_toArray, List.getElem?_cons_zero, List.getElem?_cons_succ]; rfl) (by rfl) ?_
           simp only [Act.put, List.setIfInBounds_toArray, List.set_cons_zero, List.set_cons_succ])
        | (refine wpTr_float (v := ?_) (by simp only [List.getElem?_toArray, List.getElem?_cons_zero, List.getElem?_cons_succ]; rfl) (by rfl) (fun w' hS => ?_) ?_
           rotate_left
           ((skip); go_simp; first | done | rfl)
           simp only [Act.put, List.setIfInBounds_toArray, List.set_cons_zero, List.set_cons_succ]))
      refine wpTr_done ?_
      clear t0 t1 t2 t3 t4 t5 t6 tl
      go_wp2
      go_roundw
      case rel =>
        refine ⟨j + 1, min (m + v5 + v6) 8000, by omega, by go_num, ?_, by omega, HB6⟩
        have z1 : IntKind.i64.wrap ((m : Int) + (v5 : Int)) = (m : Int) + (v5 : Int) := IntWalk.i64_in _ (by omega)
        have z2 : IntKind.i64.wrap ((m : Int) + (v5 : Int) + (v6 : Int)) = (m : Int) + (v5 : Int) + (v6 : Int) := IntWalk.i64_in _ (by omega)
        rw [z1, z2]
        congr 1
        split <;> omega
      case measure => simp [intOf] <;> omega
    · have d1 : decide (100 < n) = false := decide_eq_false (by omega)
      have d1' : decide (100 < (n : Int)) = false := decide_eq_false (by omega)
      by_cases g1 : 4000 < m
      · have e1 : decide (4000 < m) = true := decide_eq_true g1
        have e1' : decide (4000 < (m : Int)) = true := decide_eq_true (by omega)
        go_wp2
        go_ret
        exact ⟨2, rfl, HBw.out⟩
      · have e1 : decide (4000 < m) = false := decide_eq_false g1
        have e1' : decide (4000 < (m : Int)) = false := decide_eq_false (by omega)
        go_wp2
        go_ret
        exact ⟨0, rfl, HBw.out⟩
end Go.Proofs.Ytkoojoogddndnaa
namespace Go.Proofs.Ytkoojoogddndnaa
open Go.RowKit Go.UtYtkoojoogddndnaa
/-- empty of p returns, wherever p lies -/
def EmpOk (p : Pat) : Prop := ∀ (A1 : Option Addr) (c1 : Nat) (A2 : Option Addr) (c2 : Nat) (w : World), PvAt w w.heap.size p A1 c1 A2 c2 →
    Calls Try.prog 103 #[.agg #[.int .i64 p.kind, .slice A1 p.cls.length c1, .slice A2 p.subs.length c2]] w (RetB w)
set_option maxRecDepth 100000 in
set_option maxHeartbeats 2000000 in
theorem rest_of (ps : List Pat) (hps : ∀ q ∈ ps, EmpOk q) (A : Option Addr) (c n : Nat) (w : World) (h : PsAt w w.heap.size A c ps) (hn : ps.length = n) :
    Calls Try.prog 89 #[.slice A n c] w (RetB w) := by
  have HPS := Lib.hid h
  have IH := Lib.hid hps
  have HN := Lib.hid hn
  have hn31 : n ≤ 9223372036854775807 := by have := h.1; simp only [maxLen] at this; omega
  clear h hps hn
  go_enter Try.func89, Try.ntmps89
  go_wp2
  go_loopw [3] (fun iv wr => ∃ (j : Nat), j ≤ n ∧ iv = .int .i64 (j : Int) ∧ Hid (Below w.heap.size w wr)) (fun i _ => n - (intOf i).toNat)
  case atStart => exact ⟨0, by omega, rfl, Below.refl _ _⟩
  case round =>
    obtain ⟨j, hj, rfl, HB⟩ := hrel
    by_cases hjn : j < n
    · obtain ⟨b, o, q, B1, e1, B2, e2, rfl, hb, hq, q0, q1, q2, g1, g2, g3⟩ := (HPS.out.below HB.out).at_ (k := j) (by rw [HN.out]; exact hjn)
      have hbl : b < wr.heap.size := by have := HB.out.size; omega
      have CQ := IH.out q (List.mem_of_getElem? hq.out) B1 e1 B2 e2 wr ⟨g1, g2.lt, g3.lt⟩
      obtain ⟨qk, hqk⟩ : ∃ z, q.kind = z := ⟨_, rfl⟩
      obtain ⟨qn, hqn⟩ : ∃ z, q.cls.length = z := ⟨_, rfl⟩
      obtain ⟨qs, hqs⟩ : ∃ z, q.subs.length = z := ⟨_, rfl⟩
      rw [hqk, hqn, hqs] at CQ
      rw [hqk] at q0
      rw [hqn] at q1
      rw [hqs] at q2
      replace CQ := Lib.hid CQ
      clear hqk hqn hqs g1 g2 g3
      go_wp2_with fail
      refine CQ.out.mono ?_
      rintro e w2 ⟨v, rfl, hb2⟩
      have HB2 : Hid (Below w.heap.size w w2) := HB.out.trans (hb2.mono HB.out.size)
      clear hb2
      cases v
      · go_wp2
        go_ret
        exact ⟨false, rfl, HB2.out⟩
      · go_wp2
        go_roundw
        case rel => exact ⟨j + 1, by omega, by go_num, HB2⟩
        case measure => simp [intOf] <;> omega
    · go_wp2
      go_ret
      exact ⟨true, rfl, HB.out⟩
set_option maxRecDepth 100000 in
set_option maxHeartbeats 4000000 in
theorem empty_any : ∀ (p : Pat), EmpOk p := by
  intro p
  induction p using Pat.ind with
  | h k cl s ih =>
    intro A1 c1 A2 c2 w hP
    have IH := Lib.hid ih
    simp only [Pat.kind, Pat.cls, Pat.subs]
    have HPS : Hid (PsAt w w.heap.size A2 c2 s) := Lib.hid hP.2.2
    have CR := Lib.hid (fun (u : World) (hu : Below w.heap.size w u) => rest_of s ih A2 c2 s.length u (HPS.out.below hu).lt rfl)
    obtain ⟨nc, hnc⟩ : ∃ n, cl.length = n := ⟨_, rfl⟩
    obtain ⟨n, hn⟩ : ∃ n, s.length = n := ⟨_, rfl⟩
    have HN := Lib.hid hn
    rw [hn] at CR
    rw [hnc, hn]
    obtain ⟨w1, hw1, HB1, HK1⟩ := boxV w 77 #[.int .i64 k, .slice A1 nc c1, .slice A2 n c2]
    have p0 := HK1.out.cell 0
    have p1 := HK1.out.cell 1
    have p2 := HK1.out.cell 2
    have pl := HK1.out.lt
    simp only [List.getElem?_toArray, List.getElem?_cons_zero, List.getElem?_cons_succ] at p0 p1 p2
    have hn31 : n ≤ 9223372036854775807 := by have := HPS.out.1; rw [HN.out] at this; simp only [maxLen] at this; omega
    clear ih hP hnc hn
    have hbs1 := HB1.out.size
    by_cases h4 : k = 4
    · subst h4
      go_enter Try.func103, Try.ntmps103
      go_upto_region 1 with fail
      rw [← hw1]
      clear hw1
      go_wp2
      go_ret
      exact ⟨true, rfl, HB1.out⟩
    have k4 : (k == 4) = false := by simpa using h4
    by_cases h2 : k = 2
    · subst h2
      clear h4 k4
      go_enter Try.func103, Try.ntmps103
      go_upto_region 1 with fail
      rw [← hw1]
      clear hw1
      go_wp2_with fail
      refine (CR.out w1 HB1.out).mono ?_
      rintro e w2 ⟨v, rfl, hb2⟩
      have HB2 := Lib.hid (HB1.out.trans (hb2.mono HB1.out.size))
      clear hb2
      go_wp2
      go_ret
      exact ⟨v, rfl, HB2.out⟩
    have k2 : (k == 2) = false := by simpa using h2
    by_cases h3 : k = 3
    · subst h3
      clear h4 k4 h2 k2
      go_enter Try.func103, Try.ntmps103
      go_upto_region 1 with fail
      rw [← hw1]
      clear hw1
      go_wp2
      clear p0 p1 p2 pl
      go_loopw [3] (fun iv wr => ∃ (j : Nat), j ≤ n ∧ iv = .int .i64 (j : Int) ∧ Hid (Below w1.heap.size w1 wr)) (fun i _ => n - (intOf i).toNat)
      case atStart => exact ⟨0, by omega, rfl, Below.refl _ _⟩
      case round =>
        obtain ⟨j, hj, rfl, HB⟩ := hrel
        have HBw := Lib.hid (HB1.out.trans (HB.out.mono hbs1))
        have HKr := Lib.hid (HK1.out.after HB.out)
        have p0 := HKr.out.cell 0
        have p1 := HKr.out.cell 1
        have p2 := HKr.out.cell 2
        have pl := HKr.out.lt
        simp only [List.getElem?_toArray, List.getElem?_cons_zero, List.getElem?_cons_succ] at p0 p1 p2
        by_cases hjn : j < n
        · obtain ⟨b, o, q, B1, e1, B2, e2, rfl, hb, hq, q0, q1, q2, g1, g2, g3⟩ := (HPS.out.below HBw.out).at_ (k := j) (by rw [HN.out]; exact hjn)
          have hbl : b < wr.heap.size := by have := HBw.out.size; omega
          have CQ := IH.out q (List.mem_of_getElem? hq.out) B1 e1 B2 e2 wr ⟨g1, g2.lt, g3.lt⟩
          obtain ⟨qk, hqk⟩ : ∃ z, q.kind = z := ⟨_, rfl⟩
          obtain ⟨qn, hqn⟩ : ∃ z, q.cls.length = z := ⟨_, rfl⟩
          obtain ⟨qs, hqs⟩ : ∃ z, q.subs.length = z := ⟨_, rfl⟩
          rw [hqk, hqn, hqs] at CQ
          rw [hqk] at q0
          rw [hqn] at q1
          rw [hqs] at q2
          replace CQ := Lib.hid CQ
          clear hqk hqn hqs g1 g2 g3
          go_wp2_with fail
          refine CQ.out.mono ?_
          rintro e w2 ⟨v, rfl, hb2⟩
          have HB2 : Hid (Below w1.heap.size w1 w2) := HB.out.trans (hb2.mono HB.out.size)
          have HB2w := Lib.hid (HB1.out.trans (HB2.out.mono hbs1))
          clear hb2
          cases v
          · go_wp2
            go_roundw
            case rel => exact ⟨j + 1, by omega, by go_num, HB2⟩
            case measure => simp [intOf] <;> omega
          · go_wp2
            go_ret
            exact ⟨true, rfl, HB2w.out⟩
        · go_wp2
          go_ret
          exact ⟨false, rfl, HBw.out⟩
    have k3 : (k == 3) = false := by simpa using h3
    go_enter Try.func103, Try.ntmps103
    go_upto_region 1 with fail
    rw [← hw1]
    clear hw1
    go_wp2
    go_ret
    exact ⟨false, rfl, HB1.out⟩
theorem rest_any (ps : List Pat) (A : Option Addr) (c n : Nat) (w : World) (h : PsAt w w.heap.size A c ps) (hn : ps.length = n) : Calls Try.prog 89 #[.slice A n c] w (RetB w) :=
  rest_of ps (fun q _ => empty_any q) A c n w h hn
end Go.Proofs.Ytkoojoogddndnaa
