/-
  transduce.Reach, ref51.Reach.
-/
import Derived.Test.YtjohoohdjlajcaaTu0
import Derived.Test.YtjohoohdjlajcaaTd2
namespace Go.UtYtjohoohdjlajcaa
theorem max2_int {P : Program} (w : World) (ts : Array TypeId) (t : TypeId) (k k' : IntKind) (x y : Int) : (Builtin.max_ ts t #[.int k x, .int k' y]).run P w = .ok (.int k (max x y)) w := by
  rw [run_max_int2]
  congr 2
  split <;> omega
theorem bf_take {l : List TR} {k : Nat} {r : TR} (h : l[k]? = some r) : bfR (l.take (k + 1)) = max (bfR (l.take k)) r.bef.length := by
  obtain ⟨hk, e⟩ := List.getElem?_eq_some_iff.1 h
  rw [List.take_succ_eq_append_getElem hk, e]
  simp [bfR]
theorem ah_take {l : List TR} {k : Nat} {r : TR} (h : l[k]? = some r) : ahR (l.take (k + 1)) = max (ahR (l.take k)) (r.mat.length + r.aft.length) := by
  obtain ⟨hk, e⟩ := List.getElem?_eq_some_iff.1 h
  rw [List.take_succ_eq_append_getElem hk, e]
  simp [ahR, TR.ma]
end Go.UtYtjohoohdjlajcaa
namespace Go.Proofs.Ytjohoohdjlajcaa
open Go.RowKit Go.UtYtjohoohdjlajcaa
attribute [local go_sem high] max2_int
theorem data_reach (rules : List TR) : bfR (dataL rules) ≤ 8 ∧ ahR (dataL rules) ≤ 16 := by
  constructor
  · refine foldl_bd (fun r => r.bef.length) 8 _ _ (by omega) (fun r hr => ?_)
    exact (chk1_ok (data_ok r hr)).1.2.2.1
  · refine foldl_bd (fun r => r.ma.length) 16 _ _ (by omega) (fun r hr => ?_)
    obtain ⟨h1, h2, h3, h4, h5⟩ := (chk1_ok (data_ok r hr)).1
    rw [TR.ma, List.length_append]
    omega
set_option maxRecDepth 100000 in
set_option maxHeartbeats 2000000 in
theorem rReach_any (A : Option Addr) (c : Nat) (rules : List TR) (w : World) (hR : RulesAt w w.heap.size A rules) (hs : smR rules) (hl : rules.length ≤ c) (hc : c ≤ maxLen) (bf ah : Nat) (hbf : bfR (dataL rules) = bf) (hah : ahR (dataL rules) = ah) :
    Calls Try.prog 24 #[.slice A rules.length c] w fun e w' => e = .returned (.tuple #[.int .i64 (bf : Int), .int .i64 (ah : Int)]) ∧ Below w.heap.size w w' := by
  have HC := Lib.hid (data_any A c rules w hR hs hl hc)
  have HMI := Lib.hid (fun r hr => (chk1_ok (data_ok (l := rules) r hr)).1)
  have hDL := data_200 rules
  obtain ⟨D, hD⟩ : ∃ D, dataL rules = D := ⟨_, rfl⟩
  obtain ⟨rn, hrn⟩ : ∃ n, rules.length = n := ⟨_, rfl⟩
  unfold RetD at HC
  rw [hD] at HC HMI hDL hbf hah
  rw [hrn] at HC
  obtain ⟨dn, hdn⟩ : ∃ n, D.length = n := ⟨_, rfl⟩
  rw [hdn] at hDL HC
  rw [hrn]
  have HDN := Lib.hid hdn
  have HBF := Lib.hid hbf
  have HAH := Lib.hid hah
  clear hR hs hl hc hrn hD hdn hbf hah
  go_enter Try.func24, Try.ntmps24
  go_wp2_with (first
    | (go_at_call 34
       refine HC.out.mono ?_
       rintro e w1 ⟨A', c', rfl, _, _, hru, hb1⟩
       have HRU := Lib.hid hru
       have HB1 := Lib.hid hb1
       clear hru hb1))
  go_loopw [5, 6, 7] (fun b a i wr => ∃ (k x y : Nat), k ≤ dn ∧ i = .int .i64 (k : Int) ∧ b = .int .i64 (x : Int) ∧ a = .int .i64 (y : Int) ∧ Hid (bfR (D.take k) = x ∧ ahR (D.take k) = y) ∧ Hid (Below w.heap.size w wr)) (fun _ _ i _ => dn - (intOf i).toNat)
  case atStart => exact ⟨0, 0, 0, by omega, rfl, rfl, rfl, ⟨rfl, rfl⟩, HB1⟩
  case round =>
    obtain ⟨k, x, y, hk, rfl, rfl, rfl, HXY, HB⟩ := hrel
    have hbs := HB.out.size
    by_cases hkn : k < dn
    · obtain ⟨b, o, v0, v1, v2, v3, r, rfl, hb, hx, HRA, c0, c1, c2, c3⟩ := (HRU.out.below HB.out).at_ (k := k) (by rw [HDN.out]; exact hkn)
      obtain ⟨s1, s2, s3, s4, s5⟩ := HMI.out r (List.mem_of_getElem? hx.out)
      obtain ⟨Ab, cb, Am, cm, Aa, ca, Ar, cr, hvs, hmore⟩ := HRA.out
      simp only [List.cons.injEq, and_true] at hvs
      obtain ⟨rfl, rfl, rfl, rfl⟩ := hvs
      have HN : Hid (bfR (D.take (k + 1)) = max x r.bef.length ∧ ahR (D.take (k + 1)) = max y (r.mat.length + r.aft.length)) := ⟨by rw [bf_take hx.out, HXY.out.1], by rw [ah_take hx.out, HXY.out.2]⟩
      obtain ⟨nb, hnb⟩ : ∃ n, r.bef.length = n := ⟨_, rfl⟩
      obtain ⟨nm, hnm⟩ : ∃ n, r.mat.length = n := ⟨_, rfl⟩
      obtain ⟨na, hna⟩ : ∃ n, r.aft.length = n := ⟨_, rfl⟩
      rw [hnb] at c0 s3 HN
      rw [hnm] at c1 s1 s2 HN
      rw [hna] at c2 s4 HN
      clear hmore HRA hnb hnm hna
      have k1 : max (x : Int) (nb : Int) = ((max x nb : Nat) : Int) := by omega
      have k2 : max (y : Int) ((nm : Int) + (na : Int)) = ((max y (nm + na) : Nat) : Int) := by omega
      obtain ⟨x', hx'⟩ : ∃ x', max x nb = x' := ⟨_, rfl⟩
      obtain ⟨y', hy'⟩ : ∃ y', max y (nm + na) = y' := ⟨_, rfl⟩
      rw [hx'] at k1 HN
      rw [hy'] at k2 HN
      clear hx' hy'
      go_wp2
      go_quiet (fail)
      go_wp2
      go_roundw
      case rel => exact ⟨k + 1, x', y', by omega, by go_num, rfl, rfl, HN, below_drewN HB.out _⟩
      case measure => simp [intOf]; omega
    · obtain rfl : dn = k := by omega
      obtain ⟨h1, h2⟩ := HXY.out
      rw [List.take_of_length_le (by rw [HDN.out]; exact Nat.le_refl _)] at h1 h2
      rw [HBF.out] at h1
      rw [HAH.out] at h2
      subst h1 h2
      go_wp2
      go_ret2
      exact ⟨rfl, HB.out⟩
set_option maxRecDepth 100000 in
set_option maxHeartbeats 2000000 in
theorem pReach_any (A : Option Addr) (c : Nat) (rules : List TR) (w : World) (hR : RulesAt w w.heap.size A rules) (hs : smR rules) (hl : rules.length ≤ c) (hc : c ≤ maxLen) (hrl : rules.length ≤ 1000000) (bf ah : Nat) (hbf : bfR (dataL rules) = bf) (hah : ahR (dataL rules) = ah) :
    Calls Try.prog 29 #[.slice A rules.length c] w fun e w' => e = .returned (.tuple #[.int .i64 (bf : Int), .int .i64 (ah : Int)]) ∧ Below w.heap.size w w' := by
  have HC := Lib.hid (compiled_any A c rules w hR hs hl hc hrl)
  have HMI := Lib.hid (fun r hr => (chk1_ok (data_ok (l := rules) r hr)).1)
  have hDL := data_200 rules
  obtain ⟨D, hD⟩ : ∃ D, dataL rules = D := ⟨_, rfl⟩
  obtain ⟨rn, hrn⟩ : ∃ n, rules.length = n := ⟨_, rfl⟩
  unfold RetTrie at HC
  rw [hD] at HC HMI hDL hbf hah
  rw [hrn] at HC
  obtain ⟨dn, hdn⟩ : ∃ n, D.length = n := ⟨_, rfl⟩
  rw [hdn] at hDL
  rw [hrn]
  have HDN := Lib.hid hdn
  have HBF := Lib.hid hbf
  have HAH := Lib.hid hah
  clear hR hs hl hc hrn hD hdn hbf hah hrl
  go_enter Try.func29, Try.ntmps29
  go_wp2_with (first
    | (go_at_call 45
       refine HC.out.mono ?_
       rintro e w1 ⟨g, A', c', rfl, htr, hru, hb1⟩
       have HRU := Lib.hid hru
       have HB1 := Lib.hid hb1
       have hg2 := htr.base.2.1
       obtain ⟨mb, Al, cl, mm, vs, z1, _⟩ := htr
       obtain ⟨e0, _, _⟩ := z1.cells3
       rw [HDN.out] at e0
       clear z1 hru hb1))
  go_loopw [4, 5, 14] (fun b a i wr => ∃ (k x y : Nat), k ≤ dn ∧ i = .int .i64 (k : Int) ∧ b = .int .i64 (x : Int) ∧ a = .int .i64 (y : Int) ∧ Hid (bfR (D.take k) = x ∧ ahR (D.take k) = y) ∧ Hid (Below w.heap.size w wr)) (fun _ _ i _ => dn - (intOf i).toNat)
  case atStart => exact ⟨0, 0, 0, by omega, rfl, rfl, rfl, ⟨rfl, rfl⟩, HB1⟩
  case round =>
    obtain ⟨k, x, y, hk, rfl, rfl, rfl, HXY, HB⟩ := hrel
    have hbs := HB.out.size
    by_cases hkn : k < dn
    · obtain ⟨b, o, v0, v1, v2, v3, r, rfl, hb, hx, HRA, c0, c1, c2, c3⟩ := (HRU.out.below HB.out).at_ (k := k) (by rw [HDN.out]; exact hkn)
      obtain ⟨s1, s2, s3, s4, s5⟩ := HMI.out r (List.mem_of_getElem? hx.out)
      obtain ⟨Ab, cb, Am, cm, Aa, ca, Ar, cr, hvs, hmore⟩ := HRA.out
      simp only [List.cons.injEq, and_true] at hvs
      obtain ⟨rfl, rfl, rfl, rfl⟩ := hvs
      have HN : Hid (bfR (D.take (k + 1)) = max x r.bef.length ∧ ahR (D.take (k + 1)) = max y (r.mat.length + r.aft.length)) := ⟨by rw [bf_take hx.out, HXY.out.1], by rw [ah_take hx.out, HXY.out.2]⟩
      obtain ⟨nb, hnb⟩ : ∃ n, r.bef.length = n := ⟨_, rfl⟩
      obtain ⟨nm, hnm⟩ : ∃ n, r.mat.length = n := ⟨_, rfl⟩
      obtain ⟨na, hna⟩ : ∃ n, r.aft.length = n := ⟨_, rfl⟩
      rw [hnb] at c0 s3 HN
      rw [hnm] at c1 s1 s2 HN
      rw [hna] at c2 s4 HN
      clear hmore HRA hnb hnm hna
      have k1 : max (x : Int) (nb : Int) = ((max x nb : Nat) : Int) := by omega
      have k2 : max (y : Int) ((nm : Int) + (na : Int)) = ((max y (nm + na) : Nat) : Int) := by omega
      obtain ⟨x', hx'⟩ : ∃ x', max x nb = x' := ⟨_, rfl⟩
      obtain ⟨y', hy'⟩ : ∃ y', max y (nm + na) = y' := ⟨_, rfl⟩
      rw [hx'] at k1 HN
      rw [hy'] at k2 HN
      clear hx' hy'
      go_wp2
      go_roundw
      case rel => exact ⟨k + 1, x', y', by omega, by go_num, rfl, rfl, HN, HB.out.alloc HB.out.size _⟩
      case measure => simp [intOf]; omega
    · obtain rfl : dn = k := by omega
      obtain ⟨h1, h2⟩ := HXY.out
      rw [List.take_of_length_le (by rw [HDN.out]; exact Nat.le_refl _)] at h1 h2
      rw [HBF.out] at h1
      rw [HAH.out] at h2
      subst h1 h2
      go_wp2
      go_ret2
      exact ⟨rfl, HB.out⟩
end Go.Proofs.Ytjohoohdjlajcaa
