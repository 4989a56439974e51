/-
  transduce.compiled, transduce.Step.
  transduce.Step.
-/
import Derived.Test.YtjohoohdjlajcaaTt5
import Derived.Test.YtjohoohdjlajcaaTs2
import Derived.Carry
namespace Go.Proofs.Ytjohoohdjlajcaa
open Go.RowKit Go.UtYtjohoohdjlajcaa
/-- the call returns a trie of the rules, if they are valid -/
def RetTrie (w : World) (rules : List TR) (e : Ending) (w' : World) : Prop :=
  ∃ (g : Nat) (A' : Option Addr) (c' : Nat), e = .returned (.pointer (some ⟨g, 0, none⟩)) ∧ TrieAt 79 31 3 w' w.heap.size g (fun _ => False) A' c' (dataL rules) [[]] ∧ RulesAt w w.heap.size A' (dataL rules) ∧ Below w.heap.size w w'
set_option maxRecDepth 100000 in
set_option maxHeartbeats 1000000 in
theorem compiled_any (A : Option Addr) (c : Nat) (rules : List TR) (w : World) (hR : RulesAt w w.heap.size A rules) (hs : smR rules) (hl : rules.length ≤ c) (hc : c ≤ maxLen) (hrl : rules.length ≤ 1000000) :
    Calls Try.prog 45 #[.slice A rules.length c] w (RetTrie w rules) := by
  have HR := Lib.hid hR
  have HCK := tcheck_any A c rules w hR hs hl hc
  unfold maxLen at hc
  obtain ⟨n, hn⟩ : ∃ n, rules.length = n := ⟨_, rfl⟩
  have HN := Lib.hid hn
  rw [hn] at hl hrl HCK ⊢
  replace HCK := Lib.hid HCK
  clear hR hs hn
  have hmm := @run_makeMap Try.prog
  obtain ⟨i0, hi0, hz0, hz1, hz2⟩ := info_parts in_info
  by_cases h0 : chkL rules = 0
  · have HD : Hid (dataL rules = rules) := by
      show _ = _
      unfold dataL
      rw [if_pos h0]
    rw [h0] at HCK
    have HL : Hid ((dataL rules).length = n) := by show _ = _; rw [HD.out]; exact HN.out
    go_enter Try.func45, Try.ntmps45
    go_wp2_with (first
      | (at_make
         refine wpList_make_block _ rfl _ _ _ rfl 3 i0 _ Try.underlying31 hi0 hz0 hz1 .i64 .i64 _ _ n rfl rfl rfl rfl (by rw [hz2]; omega) (by simp only [maxLen]; omega) ?_
         intro w2 zs hzs hg2 hlt2 hb2)
      | (go_at_call 26; refine HCK.out.mono ?_; rintro e w1 ⟨rfl, hb1⟩; have HB1 := Lib.hid hb1; clear hb1))
    obtain ⟨gb, hgb⟩ : ∃ g, g = w1.heap.size := ⟨_, rfl⟩
    have hgw : w.heap.size ≤ gb := by rw [hgb]; exact HB1.out.size
    have HB2 : Hid (Below w.heap.size w w2) := HB1.out.trans (hb2.out.mono HB1.out.size)
    have HK2 : Hid (Blk w2 gb 3 (fillI 0 zs).toArray) := by
      show Blk _ _ _ _
      rw [fillI_zero, hgb]
      exact hg2.out
    rw [← hgb]
    have HZ := Lib.hid hzs
    clear hg2 hlt2 hb2 hgb hzs
    go_loopw [13] (fun i wr => ∃ k : Nat, k ≤ n ∧ i = .int .i64 (k : Int) ∧ Hid (Blk wr gb 3 (fillI k zs).toArray) ∧ Hid (Below w.heap.size w wr)) (fun i _ => n - (intOf i).toNat)
    case atStart => exact ⟨0, by omega, rfl, HK2, HB2⟩
    case round =>
      obtain ⟨k, hk, rfl, HK, HB⟩ := hrel
      by_cases hkn : k < n
      · obtain ⟨u, hu⟩ : ∃ u, (fillI k zs).toArray[k]? = some u := by
          have : k < (fillI k zs).toArray.size := by
            have h1 := fillI_len (k := k) (zs := zs) (by rw [HZ.out]; omega)
            have h2 := HZ.out
            simp only [List.size_toArray]
            omega
          exact ⟨_, Array.getElem?_eq_getElem this⟩
        have k1 := (HK.out.cell k).trans hu
        have k2 := HK.out.free k
        have k3 := HK.out.lt
        have HN' : Hid (Blk (wr.setCell ⟨gb, k, none⟩ (.int .i64 (k : Int))) gb 3 (fillI (k + 1) zs).toArray) := by
          have := HK.out.set_ k (.int .i64 (k : Int))
          rw [fillI_succ (by rw [HZ.out]; exact hkn)] at this
          exact this
        have HB' : Hid (Below w.heap.size w (wr.setCell ⟨gb, k, none⟩ (.int .i64 (k : Int)))) := HB.out.setCell (p := ⟨gb, k, none⟩) hgw _
        clear hu
        go_wp2
        go_roundw
        case rel => exact ⟨k + 1, by omega, by go_num, HN', HB'⟩
        case measure => simp [intOf]; omega
      · obtain rfl : n = k := by omega
        have HF : Hid (Blk wr gb 3 (ints (natI (List.range n))).toArray) := by
          have := HK.out
          rw [fillI_all HZ.out] at this
          exact this
        go_wp2
        go_ret
        refine ⟨wr.heap.size + 1 + 1, A, c, rfl, TrieAt.new HL.out (by simp only [maxLen]; omega) HF.out hgw rfl, ?_, ?_⟩
        · rw [HD.out]; exact HR.out
        · exact ((HB.out.alloc HB.out.size _).alloc (by have := HB.out.size; simp; omega) _).alloc (by have := HB.out.size; simp; omega) _
  · have HD : Hid (dataL rules = []) := by
      show _ = _
      unfold dataL
      rw [if_neg h0]
    obtain ⟨x, hx⟩ : ∃ x, chkL rules = x := ⟨_, rfl⟩
    rw [hx] at HCK h0
    clear hx
    have HL : Hid ((dataL rules).length = 0) := by show _ = _; rw [HD.out]; rfl
    go_enter Try.func45, Try.ntmps45
    go_wp2_with (first
      | (at_make
         refine wpList_make_block _ rfl _ _ _ rfl 3 i0 _ Try.underlying31 hi0 hz0 hz1 .i64 .i64 _ _ 0 rfl rfl rfl rfl (by rw [hz2]; omega) (by simp only [maxLen]; omega) ?_
         intro w2 zs hzs hg2 hlt2 hb2)
      | (go_at_call 26; refine HCK.out.mono ?_; rintro e w1 ⟨rfl, hb1⟩; have HB1 := Lib.hid hb1; clear hb1))
    obtain ⟨gb, hgb⟩ : ∃ g, g = w1.heap.size := ⟨_, rfl⟩
    have hgw : w.heap.size ≤ gb := by rw [hgb]; exact HB1.out.size
    have HB2 : Hid (Below w.heap.size w w2) := HB1.out.trans (hb2.out.mono HB1.out.size)
    have HK2 : Hid (Blk w2 gb 3 (fillI 0 zs).toArray) := by
      show Blk _ _ _ _
      rw [fillI_zero, hgb]
      exact hg2.out
    rw [← hgb]
    have HZ := Lib.hid hzs
    clear hg2 hlt2 hb2 hgb hzs
    go_loopw [13] (fun i wr => ∃ k : Nat, k ≤ 0 ∧ i = .int .i64 (k : Int) ∧ Hid (Blk wr gb 3 (fillI k zs).toArray) ∧ Hid (Below w.heap.size w wr)) (fun i _ => 0 - (intOf i).toNat)
    case atStart => exact ⟨0, by omega, rfl, HK2, HB2⟩
    case round =>
      obtain ⟨k, hk, rfl, HK, HB⟩ := hrel
      by_cases hkn : k < 0
      · exact absurd hkn (by omega)
      · obtain rfl : k = 0 := by omega
        have HF : Hid (Blk wr gb 3 (ints (natI (List.range 0))).toArray) := by
          have := HK.out
          rw [fillI_all HZ.out] at this
          exact this
        go_wp2
        go_ret
        refine ⟨wr.heap.size + 1 + 1, none, 0, rfl, TrieAt.new HL.out (by simp only [maxLen]; omega) HF.out hgw rfl, ?_, ?_⟩
        · rw [HD.out]; exact RulesAt.nil
        · exact ((HB.out.alloc HB.out.size _).alloc (by have := HB.out.size; simp; omega) _).alloc (by have := HB.out.size; simp; omega) _
end Go.Proofs.Ytjohoohdjlajcaa
namespace Go.UtYtjohoohdjlajcaa
open Go.RowKit
/-- what Step returns -/
def StepIs (rules : List TR) (text : List Int) (x i n : Int) : Prop := (0 ≤ x ∧ x < text.length ∧ IsStep rules text x.toNat i n) ∨ (¬ (0 ≤ x ∧ x < text.length) ∧ i = -1 ∧ n = 0)
theorem stepIs_unique {rules : List TR} {text : List Int} {x i n i' n' : Int} (h : StepIs rules text x i n) (h' : StepIs rules text x i' n') : i = i' ∧ n = n' := by
  rcases h with ⟨h1, h2, h3⟩ | ⟨h1, rfl, rfl⟩ <;> rcases h' with ⟨h1', h2', h3'⟩ | ⟨h1', rfl, rfl⟩
  · exact step_unique h3 h3'
  · exact absurd ⟨h1, h2⟩ h1'
  · exact absurd ⟨h1', h2'⟩ h1
  · exact ⟨rfl, rfl⟩
section
variable {tt tl ti : TypeId} {w w' : World} {B g c : Nat} {A : Option Addr} {rules : List TR} {nodes : List (List Int)}
theorem TrieAt.app {v v' : Value} {ob : Obj} (h : TrieAt tt tl ti w B g (fun x => v.ownBlock = some x) A c rules nodes) (g1 : (w.alloc ob).grownBy w' v.ownBlock) (ht : v'.ownBlock = v.ownBlock ∨ v'.ownBlock = some (w.alloc ob).heap.size) :
    TrieAt tt tl ti w' B g (fun x => v'.ownBlock = some x) A c rules nodes := by
  have h1 : TrieAt tt tl ti (w.alloc ob) B g (fun x => v.ownBlock = some x) A c rules nodes := h.below ((Below.refl _ _).alloc (Nat.le_refl _) _)
  have h2 : TrieAt tt tl ti (w.alloc ob) B g (fun x => v.ownBlock = some x ∨ v'.ownBlock = some x) A c rules nodes := h1.newX fun x hx => by
    rcases hx with hx | hx
    · exact .inr hx
    · rcases ht with ht | ht
      · exact .inr (ht ▸ hx)
      · rw [ht] at hx
        injection hx with hx
        exact .inl (by omega)
  have h3 : TrieAt tt tl ti w' B g (fun x => v.ownBlock = some x ∨ v'.ownBlock = some x) A c rules nodes := h2.keep fun b hb hx => g1.block b hb (fun e => hx (.inl e.symm))
  exact h3.newX fun x hx => .inr (.inr hx)
end
end Go.UtYtjohoohdjlajcaa
namespace Go.Proofs.Ytjohoohdjlajcaa
open Go.RowKit Go.UtYtjohoohdjlajcaa
/-- the call returns a rule and a number -/
def RetSt (w : World) (rules : List TR) (text : List Int) (x : Int) (e : Ending) (w' : World) : Prop :=
  ∃ i n : Int, e = .returned (.tuple #[.int .i64 i, .int .i64 n]) ∧ StepIs rules text x i n ∧ Below w.heap.size w w'
set_option maxRecDepth 100000 in
set_option maxHeartbeats 1000000 in
theorem pStep_any (A At : Option Addr) (c ct : Nat) (rules : List TR) (text : List Int) (x : Int) (w : World) (hR : RulesAt w w.heap.size A rules) (hs : smR rules) (hl : rules.length ≤ c) (hc : c ≤ maxLen) (hrl : rules.length ≤ 1000000)
    (hT : Row w w.heap.size At (ints text)) (htl : text.length ≤ 10000) :
    Calls Try.prog 46 #[.slice A rules.length c, .slice At text.length ct, .int .i64 x] w (RetSt w (dataL rules) text x) := by
  have HC := Lib.hid (compiled_any A c rules w hR hs hl hc hrl)
  have HT := Lib.hid hT
  have HTL := Lib.hid htl
  have HDL : Hid ((dataL rules).length ≤ 1000000) := Nat.le_trans (data_len rules) hrl
  obtain ⟨rn, hrn⟩ : ∃ n, rules.length = n := ⟨_, rfl⟩
  obtain ⟨nt, hnt⟩ : ∃ n, text.length = n := ⟨_, rfl⟩
  rw [hrn] at HC
  rw [hrn, hnt]
  have HNT := Lib.hid hnt
  clear hR hs hl hc hrl hT htl hrn hnt
  by_cases hx : 0 ≤ x ∧ x < (nt : Int)
  · obtain ⟨hx0, hx1⟩ := hx
    obtain ⟨p, rfl⟩ : ∃ p : Nat, x = (p : Int) := ⟨x.toNat, by omega⟩
    go_enter Try.func46, Try.ntmps46
    go_wp2_with (first
      | (go_at_call 53
         have hst := tstep_any A' At c' ct w.heap.size g (fun _ => False) (dataL rules) text [[]] p w1 (hru.out.below hb1.out) htr.out (fun _ h => h.elim) (HT.out.below hb1.out) (by rw [HNT.out]; omega) (by have := HTL.out; omega) (by have := HTL.out; simp; omega) HDL.out
         rw [HNT.out] at hst
         refine hst.mono ?_
         rintro e w2 ⟨i, m, nodes', rfl, h1, h2, h3, h4, h5⟩
         have HST := Lib.hid h1
         have HB2 : Hid (Below w.heap.size w w2) := hb1.out.trans h4
         clear hst h1 h2 h3 h4 h5)
      | (go_at_call 45
         refine HC.out.mono ?_
         rintro e w1 ⟨g, A', c', rfl, htr, hru, hb1⟩
         replace htr := Lib.hid htr
         replace hru := Lib.hid hru
         replace hb1 := Lib.hid hb1))
    go_ret2
    exact ⟨i, m, rfl, .inl ⟨hx0, by rw [HNT.out]; exact hx1, HST.out⟩, HB2.out⟩
  · have HN : Hid (StepIs (dataL rules) text x (-1) 0) := .inr ⟨by rw [HNT.out]; exact hx, rfl, rfl⟩
    by_cases h0 : x < 0
    · go_enter Try.func46, Try.ntmps46
      go_wp2
      go_ret2
      exact ⟨-1, 0, rfl, HN.out, Below.refl _ _⟩
    · have h1 : ¬ x < (nt : Int) := by omega
      clear hx
      go_enter Try.func46, Try.ntmps46
      go_wp2
      go_ret2
      exact ⟨-1, 0, rfl, HN.out, Below.refl _ _⟩
end Go.Proofs.Ytjohoohdjlajcaa
