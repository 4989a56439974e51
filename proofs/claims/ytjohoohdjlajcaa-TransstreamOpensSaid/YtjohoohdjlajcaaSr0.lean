/-
  ref52.New.
-/
import Derived.Test.YtjohoohdjlajcaaSa0
namespace Go.Proofs.Ytjohoohdjlajcaa
open Go.RowKit Go.UtYtjohoohdjlajcaa
attribute [local go_sem high] max2_int
/-- the cells of a stream of the specification -/
def refC (Ar : Option Addr) (nr cr ah : Nat) (A : Option Addr) (n c p : Nat) (op : Bool) : Array Value := #[.slice Ar nr cr, .int .i64 (ah : Int), .slice A n c, .int .i64 (p : Int), .bool op]
def RetRNew (A : Option Addr) (c : Nat) (w : World) (rules : List TR) (e : Ending) (w' : World) : Prop :=
  Below w.heap.size w w' ∧ ((chkL rules ≠ 0 ∧ e = .returned (.tuple #[.pointer none, .int .i64 (chkL rules)])) ∨
    (chkL rules = 0 ∧ ∃ gs : Nat, e = .returned (.tuple #[.pointer (some ⟨gs, 0, none⟩), .int .i64 0]) ∧ w.heap.size ≤ gs ∧ Blk w' gs 73 (refC A rules.length c (max (ahR rules) 1) none 0 0 0 true)))
set_option maxRecDepth 100000 in
set_option maxHeartbeats 1000000 in
theorem rnew_any (A : Option Addr) (c : Nat) (rules : List TR) (w : World) (hR : RulesAt w w.heap.size A rules) (hs : smR rules) (hl : rules.length ≤ c) (hc : c ≤ maxLen) :
    Calls Try.prog 19 #[.slice A rules.length c] w (RetRNew A c w rules) := by
  have HR := Lib.hid hR
  have HS := Lib.hid hs
  have HLC := Lib.hid (And.intro hl hc)
  have HCK := rcheck_any A c rules w hR hs hl hc
  obtain ⟨n, hn⟩ : ∃ n, rules.length = n := ⟨_, rfl⟩
  have HN := Lib.hid hn
  rw [hn] at HCK ⊢
  replace HCK := Lib.hid HCK
  clear hR hs hn hl hc
  by_cases h0 : chkL rules = 0
  case neg =>
    obtain ⟨x, hx⟩ : ∃ x, chkL rules = x := ⟨_, rfl⟩
    have HX := Lib.hid hx
    rw [hx] at HCK h0
    clear hx
    go_enter Try.func19, Try.ntmps19
    go_wp2_with fail
    refine HCK.out.mono ?_
    rintro e w1 ⟨rfl, hb1⟩
    have HB1 := Lib.hid hb1
    clear hb1
    go_wp2
    go_ret2
    exact ⟨HB1.out, .inl ⟨by rw [HX.out]; exact h0, by rw [HX.out]; rfl⟩⟩
  case pos =>
    have HD : Hid (dataL rules = rules) := by
      show _ = _
      unfold dataL
      rw [if_pos h0]
    have H0 := Lib.hid h0
    rw [h0] at HCK
    obtain ⟨bf, hbf⟩ : ∃ n, bfR (dataL rules) = n := ⟨_, rfl⟩
    obtain ⟨ah, hah⟩ : ∃ n, ahR (dataL rules) = n := ⟨_, rfl⟩
    have HRC := fun (u : World) (hu : Below w.heap.size w u) => rReach_any A c rules u (HR.out.below hu).lt HS.out HLC.out.1 HLC.out.2 bf ah hbf hah
    rw [HN.out] at HRC
    rw [HD.out] at hah
    have HAH := Lib.hid hah
    replace HRC := Lib.hid HRC
    have k1 : max (ah : Int) 1 = ((max ah 1 : Nat) : Int) := by omega
    obtain ⟨m, hm⟩ : ∃ m, max ah 1 = m := ⟨_, rfl⟩
    rw [hm] at k1
    have HMX := Lib.hid hm
    clear hbf hah h0 hm
    go_enter Try.func19, Try.ntmps19
    go_wp2_with fail
    refine HCK.out.mono ?_
    rintro e w1 ⟨rfl, hb1⟩
    have HB1 := Lib.hid hb1
    clear hb1
    go_wp2_with fail
    refine (HRC.out w1 HB1.out).mono ?_
    rintro e w2 ⟨rfl, hb2⟩
    have HB2 := Lib.hid (HB1.out.trans (hb2.mono HB1.out.size))
    clear hb2
    go_wp2
    go_ret2
    refine ⟨HB2.out.alloc HB2.out.size _, .inr ⟨H0.out, w2.heap.size, rfl, HB2.out.size, ?_⟩⟩
    rw [HN.out, HAH.out, HMX.out]
    exact Blk.new w2 _ _
end Go.Proofs.Ytjohoohdjlajcaa
