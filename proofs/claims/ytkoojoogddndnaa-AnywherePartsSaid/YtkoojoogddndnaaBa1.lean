/-
  anywhere.reached, ref31.after, ref31.single: the state that two classes lead to.
-/
import Derived.Test.YtkoojoogddndnaaBq5
namespace Go.UtYtkoojoogddndnaa
def aft (nx : List (List Int)) (s x y : Int) : Int := dl nx (dl nx s x) y
/-- two classes lead to one state, from every state -/
def sngB (nx : List (List Int)) (x y : Int) : Bool := (List.range nx.length).all fun s => decide (aft nx (s : Int) x y = aft nx 0 x y)
theorem sng_all {nx : List (List Int)} {x y : Int} : sngB nx x y = true ↔ ∀ s : Nat, s < nx.length → aft nx (s : Int) x y = aft nx 0 x y := by
  unfold sngB
  rw [List.all_eq_true]
  constructor
  · intro h s hs
    simpa using h s (List.mem_range.2 hs)
  · intro h s hs
    simpa using h s (List.mem_range.1 hs)
end Go.UtYtkoojoogddndnaa
namespace Go.Proofs.Ytkoojoogddndnaa
open Go.RowKit Go.UtYtkoojoogddndnaa
theorem aft_fit {nx mk : List (List Int)} {k a : Nat} (h : soundP nx mk k a) {s x y : Nat} (hs : s < nx.length) (hx : x < k) (hy : y < k) : ∃ d : Nat, dl nx (s : Int) (x : Int) = (d : Int) ∧ d < nx.length ∧ 0 ≤ aft nx s x y ∧ aft nx s x y < (nx.length : Int) := by
  have h1 := dl_fit h (s := (s : Int)) (c := (x : Int)) ⟨by omega, by omega⟩ ⟨by omega, by omega⟩
  have h2 := dl_fit h (s := dl nx (s : Int) (x : Int)) (c := (y : Int)) h1 ⟨by omega, by omega⟩
  exact ⟨(dl nx (s : Int) (x : Int)).toNat, by omega, by omega, h2.1, h2.2⟩
set_option maxRecDepth 100000 in
set_option maxHeartbeats 1000000 in
theorem reached1_any (gA ga gb : Nat) (A A' : Option Addr) (c c' n m k a : Nat) (nx mk : List (List Int)) (s x y : Nat) (w : World) (hR : Rows2 w w.heap.size A nx) (hn : nx.length = n) (hs : soundP nx mk k a) (T1 T2 T3 : TypeId) (b1 : Blk w gA T1 #[.slice A n c, .slice A' m c']) (b2 : Blk w ga T2 #[.int .i64 (x : Int)]) (b3 : Blk w gb T3 #[.int .i64 (y : Int)]) (h1 : s < n) (h2 : x < k) (h3 : y < k) :
    Calls Try.prog 57 #[.int .i64 (s : Int), .pointer (some ⟨gA, 0, none⟩), .pointer (some ⟨ga, 0, none⟩), .pointer (some ⟨gb, 0, none⟩)] w fun e w' => e = .returned (.int .i64 (aft nx s x y)) ∧ ∃ z, w' = w.drewN z := by
  obtain ⟨d, hd, hdn, _⟩ := aft_fit hs (s := s) (x := x) (y := y) (by omega) h2 h3
  obtain ⟨b, o, b4, o4, c4, rfl, hb, cc1, hb4, cc2, l1, l2⟩ := aut_at hR hs (s := s) (c := x) (by omega) h2
  obtain ⟨b', o', b5, o5, c5, hA, hb', cc3, hb5, cc4, l3, l4⟩ := aut_at hR hs (s := d) (c := y) hdn h3
  injection hA with hA
  injection hA with e1 e2
  subst e1 e2
  rw [hd] at cc2
  have HF : Hid (aft nx s x y = dl nx (d : Int) (y : Int)) := by
    show _ = _
    unfold aft
    rw [hd]
  obtain ⟨r, hr⟩ : ∃ r, dl nx (d : Int) (y : Int) = r := ⟨_, rfl⟩
  rw [hr] at cc4 HF
  obtain ⟨p0, p1, pl⟩ := blk2 b1
  have p2 := b2.cell 0
  have p3 := b3.cell 0
  have l5 := b2.lt
  have l6 := b3.lt
  simp at p2 p3
  have hdn2 : d < n := by omega
  clear hR hs b1 b2 b3 hd hr hn hdn
  go_enter Try.func57, Try.ntmps57
  go_wp2
  go_quiet (fail)
  go_wp2
  go_ret
  exact ⟨by rw [HF.out]; rfl, _, rfl⟩
set_option maxRecDepth 100000 in
set_option maxHeartbeats 1000000 in
theorem after_any (A A' : Option Addr) (c c' n m k a : Nat) (nx mk : List (List Int)) (s x y : Nat) (w : World) (hR : Rows2 w w.heap.size A nx) (hn : nx.length = n) (hs : soundP nx mk k a) (h1 : s < n) (h2 : x < k) (h3 : y < k) :
    Calls Try.prog 58 #[.agg #[.slice A n c, .slice A' m c'], .int .i64 (s : Int), .int .i64 (x : Int), .int .i64 (y : Int)] w fun e w' => e = .returned (.int .i64 (aft nx s x y)) ∧ Below w.heap.size w w' := by
  obtain ⟨w1, hw1, HB1, HK1⟩ := boxV w 26 #[.slice A n c, .slice A' m c']
  obtain ⟨d, hd, hdn, _⟩ := aft_fit hs (s := s) (x := x) (y := y) (by omega) h2 h3
  have hR1 := hR.below HB1.out
  obtain ⟨b, o, b4, o4, c4, rfl, hb, cc1, hb4, cc2, l1, l2⟩ := aut_at hR1 hs (s := s) (c := x) (by omega) h2
  obtain ⟨b', o', b5, o5, c5, hA, hb', cc3, hb5, cc4, l3, l4⟩ := aut_at hR1 hs (s := d) (c := y) hdn h3
  injection hA with hA
  injection hA with e1 e2
  subst e1 e2
  rw [hd] at cc2
  have HF : Hid (aft nx s x y = dl nx (d : Int) (y : Int)) := by
    show _ = _
    unfold aft
    rw [hd]
  obtain ⟨r, hr⟩ : ∃ r, dl nx (d : Int) (y : Int) = r := ⟨_, rfl⟩
  rw [hr] at cc4 HF
  obtain ⟨p0, p1, pl⟩ := blk2 HK1.out
  have hdn2 : d < n := by omega
  have hsz := HB1.out.size
  clear hR hR1 hs hd hr hn hdn
  go_enter Try.func58, Try.ntmps58
  go_upto_region 1 with fail
  rw [← hw1]
  clear hw1
  have hq1 : b < w1.heap.size := by omega
  have hq2 : b4 < w1.heap.size := by omega
  have hq3 : b5 < w1.heap.size := by omega
  go_wp2
  go_quiet (fail)
  go_wp2
  go_ret
  exact ⟨by rw [HF.out]; rfl, below_drewN HB1.out _⟩
end Go.Proofs.Ytkoojoogddndnaa
