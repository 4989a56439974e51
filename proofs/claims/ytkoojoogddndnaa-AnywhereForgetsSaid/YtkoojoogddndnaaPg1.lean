/-
  ref29.step: the state after a class.
  ref29.sameState, find, marks.
-/
import Derived.Test.YtkoojoogddndnaaPd0
import Derived.Test.YtkoojoogddndnaaPfa
import Derived.Test.YtkoojoogddndnaaBw6
import Derived.BigQuiet
namespace Go.UtYtkoojoogddndnaa
open Go.RowKit
mutual
theorem pd_sub : ∀ (p : Pat), ∀ d ∈ pdL p, ∀ q ∈ d, nodes q ≤ nodes p
  | .mk k c s => by
    intro d hd q hq
    rw [pdL] at hd
    by_cases h1 : k = 1
    · rw [if_pos h1] at hd
      simp at hd
      subst hd
      cases hq
    rw [if_neg h1] at hd
    by_cases h2 : k = 2
    · rw [if_pos h2] at hd
      have := pd_subC s d hd q hq
      rw [nodes]
      omega
    rw [if_neg h2] at hd
    by_cases h3 : k = 3
    · rw [if_pos h3] at hd
      have := pd_subA s d hd q hq
      rw [nodes]
      omega
    rw [if_neg h3] at hd
    by_cases h4 : k = 4
    · rw [if_pos h4] at hd
      exact pd_subS (.mk k c s) s (by rw [nodes]; omega) d hd q hq
    · rw [if_neg h4] at hd
      cases hd
theorem pd_subC : ∀ (s : List Pat), ∀ d ∈ pdCat s, ∀ q ∈ d, nodes q ≤ nodesL s
  | [] => by
    intro d hd
    rw [pdCat] at hd
    cases hd
  | r :: s => by
    intro d hd q hq
    rw [pdCat, List.mem_append] at hd
    rw [nodesL]
    rcases hd with hd | hd
    · obtain ⟨d', h1, rfl⟩ := List.mem_map.1 hd
      rcases List.mem_append.1 hq with hq | hq
      · have := pd_sub r d' h1 q hq
        omega
      · have := mem_nodesL s q hq
        omega
    · have := pd_subC s d hd q hq
      omega
theorem pd_subA : ∀ (s : List Pat), ∀ d ∈ pdAlt s, ∀ q ∈ d, nodes q ≤ nodesL s
  | [] => by
    intro d hd
    rw [pdAlt] at hd
    cases hd
  | r :: s => by
    intro d hd q hq
    rw [pdAlt, List.mem_append] at hd
    rw [nodesL]
    rcases hd with hd | hd
    · have := pd_sub r d hd q hq
      omega
    · have := pd_subA s d hd q hq
      omega
theorem pd_subS (p : Pat) : ∀ (s : List Pat), nodesL s ≤ nodes p → ∀ d ∈ pdStar p s, ∀ q ∈ d, nodes q ≤ nodes p
  | [] => by
    intro _ d hd
    rw [pdStar] at hd
    cases hd
  | r :: s => by
    intro hs d hd q hq
    rw [pdStar] at hd
    rw [nodesL] at hs
    by_cases hs' : s = []
    · rw [if_pos hs'] at hd
      obtain ⟨d', h1, rfl⟩ := List.mem_map.1 hd
      rcases List.mem_append.1 hq with hq | hq
      · have := pd_sub r d' h1 q hq
        omega
      · simp at hq
        subst hq
        omega
    · rw [if_neg hs'] at hd
      cases hd
theorem mem_nodesL : ∀ (s : List Pat), ∀ q ∈ s, nodes q ≤ nodesL s
  | [] => by
    intro q hq
    cases hq
  | r :: s => by
    intro q hq
    rw [nodesL]
    rcases List.mem_cons.1 hq with h | h
    · subst h
      omega
    · have := mem_nodesL s q h
      omega
end
theorem nodesL_le (n : Nat) : ∀ (d : List Pat), (∀ q ∈ d, nodes q ≤ n) → nodesL d ≤ d.length * n
  | [], _ => by simp [nodesL]
  | q :: d, h => by
    have h1 := h q (by simp)
    have h2 := nodesL_le n d (fun q hq => h q (by simp [hq]))
    rw [nodesL, List.length_cons, Nat.succ_mul]
    omega
theorem univ_nodes {p : Pat} {r : List Pat} (h : r ∈ univ p) (hp : nodes p ≤ 12) : nodesL r ≤ 144 := by
  rcases List.mem_cons.1 h with h | h
  · subst h
    rw [nodesL, nodesL]
    omega
  · have h1 := nodesL_le 12 r (fun q hq => Nat.le_trans (pd_sub p r h q hq) hp)
    have h2 := (pd_few p).2 r h
    have : r.length * 12 ≤ 12 * 12 := Nat.mul_le_mul_right 12 (by omega)
    omega
/-- a state of the patterns: for each a set, a part of what may remain of it -/
def OkSt (ps : List Pat) (s : List (List (List Pat))) : Prop := s.length = ps.length ∧ ∀ (i : Nat) (p : Pat) (S : List (List Pat)), ps[i]? = some p → s[i]? = some S → S.Nodup ∧ ∀ r ∈ S, r ∈ univ p
section
variable {α : Type} {P' : World → Nat → Value → α → Prop} {P : Program} {ops : Array Oper}
/-- append of one thing to a row of the call's own -/
theorem wp_push {o : Oper} {a : Act} {K0 : Act → World → Prop} {Q : Exit → Act → World → Prop} (w : World) (K : Keeps P') (s x : Operand) (t : TypeId)
    (ho : o.op = .call { callee := .builtin .append, args := #[s, x], argTypes := #[t, t] })
    (E : Nat → Prop) (B : Nat) (e : TypeId) (i : TypeInfo) (z : Value) (bytes : Nat) (ht : P.underlying t = some (.slice e)) (hi : P.info? e = some i) (hz : i.zero = some z)
    (hsize : i.size = 1) (hby : i.bytes = bytes) (hzs : z.cells.size = 1)
    (A : Option Addr) (c n : Nat) (xs : List α) (hs : a.eval s = .slice A n c) (hown : OwnOf E P' e w B A c n xs)
    (Bx : Nat) (Ax : Option Addr) (cx : Nat) (u : Value) (y : α) (hx : a.eval x = .slice Ax 1 cx) (hr : Row w Bx Ax [u]) (h1 : u.oneCell' = true) (hp : P' (era w (OwnX E A)) w.heap.size u y)
    (h63 : n + 1 ≤ maxLen) (hbytes : (n + 1) * bytes ≤ 140737488355328) (hbase : B ≤ w.heap.size)
    (h : ∀ (A' : Option Addr) (c' : Nat) (w' : World), Hid (OwnOf E P' e w' B A' c' (n + 1) (xs ++ [y])) → Hid (Kept B (OwnE A) w w') → Hid (Grew w (OwnE A) (OwnE A')) → K0 (a.put o.dst (.slice A' (n + 1) c')) w') : o.wp P a w K0 Q := by
  obtain ⟨h0, vs, hO, hE⟩ := hown
  refine wp_append_row w s x t ho B e i z 1 bytes ht hi hz hsize hby hzs (by omega) _ n vs hs hO Bx Ax 1 cx [u] hx rfl hr (by intro v hv; simp at hv; subst hv; exact h1) h63 hbytes hbase ?_
  intro v' w' o4 g4 t4
  obtain ⟨A', c', rfl⟩ := ow_slice (m := n + 1) o4 rfl
  have hA := own_ltG hO
  have e1 : (Value.slice A n c).ownBlock = (Value.slice A 0 0).ownBlock := own_size A c
  have e2 : (Value.slice A' (n + 1) c').ownBlock = (Value.slice A' 0 0).ownBlock := own_size A' c'
  rw [e1, e2] at t4
  rw [e1] at g4
  have hk : Kept B (OwnE A) w w' := ⟨(Below.refl _ _).grown g4 hbase (fun g hg' => (hA g hg').2), fun b hb hE => g4.block b hb (fun e => hE e.symm)⟩
  have hgr : Grew w (OwnE A) (OwnE A') := fun b hb => by
    unfold OwnE at hb ⊢
    rcases t4 with h | h
    · left
      rw [h] at hb
      exact hb
    · right
      rw [h] at hb
      injection hb with hb
      omega
  have hkx : Kept B (OwnX E A) w w' := ⟨hk.1, fun b hb hE => hk.2 b hb (fun h => hE (.inr h))⟩
  have hgx : Grew w (OwnX E A) (OwnX E A') := fun b hb => by
    rcases hb with hb | hb
    · exact .inl (.inl hb)
    · exact (hgr b hb).imp .inr id
  exact h A' c' w' (Lib.hid ⟨by simp [h0], vs ++ [u], o4, (hE.keep K (fun _ _ h => h.kept hkx hgx)).snoc (K.kept hp hkx hgx)⟩) (Lib.hid hk) (Lib.hid hgr)
theorem wpList_push {rest : List Oper} {o : Oper} {a : Act} {Q : Exit → Act → World → Prop} (w : World) (K : Keeps P') (hgd : o.guard = none) (s x : Operand) (t : TypeId)
    (ho : o.op = .call { callee := .builtin .append, args := #[s, x], argTypes := #[t, t] })
    (E : Nat → Prop) (B : Nat) (e : TypeId) (i : TypeInfo) (z : Value) (bytes : Nat) (ht : P.underlying t = some (.slice e)) (hi : P.info? e = some i) (hz : i.zero = some z)
    (hsize : i.size = 1) (hby : i.bytes = bytes) (hzs : z.cells.size = 1)
    (A : Option Addr) (c n : Nat) (xs : List α) (hs : a.eval s = .slice A n c) (hown : OwnOf E P' e w B A c n xs)
    (Bx : Nat) (Ax : Option Addr) (cx : Nat) (u : Value) (y : α) (hx : a.eval x = .slice Ax 1 cx) (hr : Row w Bx Ax [u]) (h1 : u.oneCell' = true) (hp : P' (era w (OwnX E A)) w.heap.size u y)
    (h63 : n + 1 ≤ maxLen) (hbytes : (n + 1) * bytes ≤ 140737488355328) (hbase : B ≤ w.heap.size)
    (h : ∀ (A' : Option Addr) (c' : Nat) (w' : World), Hid (OwnOf E P' e w' B A' c' (n + 1) (xs ++ [y])) → Hid (Kept B (OwnE A) w w') → Hid (Grew w (OwnE A) (OwnE A')) → wpList P ops Q rest (a.put o.dst (.slice A' (n + 1) c')) w') : wpList P ops Q (o :: rest) a w :=
  wpList_plain hgd fun _ hK => wp_push w K s x t ho E B e i z bytes ht hi hz hsize hby hzs A c n xs hs hown Bx Ax cx u y hx hr h1 hp h63 hbytes hbase fun A' c' w' g1 g2 g3 => hK _ _ (h A' c' w' g1 g2 g3)
end
end Go.UtYtkoojoogddndnaa
namespace Go.Proofs.Ytkoojoogddndnaa
open Go.RowKit Go.UtYtkoojoogddndnaa
theorem set_info : (Try.prog.info? 98).map (fun i => (i.zero, i.size, i.bytes)) = some (some (.slice none 0 0), 1, 24) := by kernel_rfl
theorem ps_nil {w : World} {B : Nat} : PsAt w B none 0 [] := ⟨⟨Nat.le_refl _, Nat.zero_le _⟩, [], Row.nil, by rw [PatsAt]⟩
/-- a literal of one pattern -/
theorem ps_one {E : Nat → Prop} {w u : World} {p : Pat} {A1 A2 : Option Addr} {c1 c2 : Nat} {T : TypeId} (hE : ∀ b, E b → b < w.heap.size) (hp : PvAt (era w E) w.heap.size p A1 c1 A2 c2) (hu : u = w.alloc (.cells #[.int .i64 p.kind, .slice A1 p.cls.length c1, .slice A2 p.subs.length c2] T)) :
    PsAt (era u E) u.heap.size (some ⟨w.heap.size, 0, none⟩) 1 [p] := by
  have hb : Below w.heap.size w u := by rw [hu]; exact (Below.refl _ _).alloc (Nat.le_refl _) _
  refine ⟨⟨Nat.le_refl _, by simp [maxLen]⟩, _, ?_, PatsAt.keep (fun _ _ h => (h.era_keep (fun b hb' _ => hb.block b hb') (fun _ _ h => h)).more hb.size) _ _ (PvAt.pats hp)⟩
  have h1 : Row u (w.heap.size + 1) (some ⟨w.heap.size, 0, none⟩) [.int .i64 p.kind, .slice A1 p.cls.length c1, .slice A2 p.subs.length c2] := by
    rw [hu]
    exact row_lit w T _
  refine (h1.era_new (N := w.heap.size) (fun a ha => by injection ha with ha; subst ha; exact Nat.le_refl _) hE).more ?_
  rw [hu]
  simp
theorem OkSt.snoc {ps : List Pat} {s : List (List (List Pat))} {p : Pat} {S : List (List Pat)} {j : Nat} (h : OkSt (ps.take j) s) (hp : ps[j]? = some p) (h1 : S.Nodup) (h2 : ∀ r ∈ S, r ∈ univ p) : OkSt (ps.take (j + 1)) (s ++ [S]) := by
  obtain ⟨h3, h4⟩ := List.getElem?_eq_some_iff.1 hp
  have hl : (ps.take j).length = j := by simp; omega
  rw [List.take_succ_eq_append_getElem h3, h4]
  refine ⟨by simp [h.1], fun i q T hq hT => ?_⟩
  by_cases hi : i < s.length
  · rw [List.getElem?_append_left hi] at hT
    rw [List.getElem?_append_left (by rw [← h.1]; exact hi)] at hq
    exact h.2 i q T hq hT
  · have hi2 : i = s.length := by
      have := (List.getElem?_eq_some_iff.1 hT).1
      simp at this
      omega
    subst hi2
    rw [List.getElem?_append_right (Nat.le_refl _), Nat.sub_self] at hT
    rw [List.getElem?_append_right (by rw [h.1]; exact Nat.le_refl _), h.1, Nat.sub_self] at hq
    simp at hT hq
    subst hT hq
    exact ⟨h1, h2⟩
set_option maxRecDepth 100000 in
set_option maxHeartbeats 4000000 in
theorem step29_any (E : Nat → Prop) (ps : List Pat) (s : List (List (List Pat))) (v : Value) (Ap : Option Addr) (cp np : Nat) (x : Int) (w : World) (hE : ∀ b, E b → b < w.heap.size) (hP : PsAt (era w E) w.heap.size Ap cp ps) (hpn : ps.length = np) (hpb : ∀ p ∈ ps, nodes p ≤ 12) (hn6 : np ≤ 6) (hS : StV (era w E) w.heap.size v s) (hO : OkSt ps s) :
    Calls Try.prog 69 #[v, .slice Ap np cp, .int .i64 x] w fun e w' => ∃ v' s', e = .returned v' ∧ StV (era w' E) w'.heap.size v' s' ∧ OkSt ps s' ∧ Below w.heap.size w w' := by
  obtain ⟨i0, hi0, hz0, hz1, hz2⟩ := info_parts set_info
  obtain ⟨i1, hi1, hy0, hy1, hy2⟩ := info_parts pts_info
  have CA := Lib.hid (fun (l : List Pat) => afterAll_of l (fun q _ => after29_any q))
  have HE := Lib.hid hE
  have HP := Lib.hid hP
  have HPN := Lib.hid hpn
  have HPB := Lib.hid hpb
  have HS := Lib.hid hS
  have HO := Lib.hid hO
  have hsn : s.length = np := by rw [hO.1, hpn]
  have HSN := Lib.hid hsn
  obtain ⟨As, cs, rfl, hs1, hs2⟩ := hS.len
  rw [hsn] at HS ⊢
  rw [hsn] at hs1
  unfold maxLen at hs2
  clear hP hpn hpb hS hO hsn hE
  go_enter Try.func69, Try.ntmps69
  go_wp2
  go_loopw [7, 8] (fun ov iv wr => ∃ (j c' : Nat) (A' : Option Addr) (out : List (List (List Pat))), j ≤ np ∧ iv = .int .i64 (j : Int) ∧ ov = .slice A' j c' ∧ Hid (OwnOf E SetV 98 wr w.heap.size A' c' j out) ∧ Hid (OkSt (ps.take j) out) ∧ Hid (Below w.heap.size w wr)) (fun _ i _ => np - (intOf i).toNat)
  case atStart => exact ⟨0, 0, none, [], by omega, rfl, rfl, OwnOf.nil, ⟨rfl, fun i p S h => by simp at h⟩, Below.refl _ _⟩
  case round =>
    obtain ⟨j, c', A', out, hj, rfl, rfl, HOO, HOK, HB⟩ := hrel
    obtain ⟨wo, hwo⟩ : ∃ z, z = wr := ⟨_, rfl⟩
    subst hwo
    have hbs := HB.out.size
    by_cases hjn : j < np
    · obtain ⟨EX, hEX⟩ : ∃ X, OwnX E A' = X := ⟨_, rfl⟩
      have HEX : Hid (∀ b, EX b → b < wo.heap.size) := Lib.hid (fun b hb => by
        rw [← hEX] at hb
        rcases hb with hb | hb
        · have := HE.out b hb
          omega
        · exact (HOO.out.lt b hb).1)
      have HPr : Hid (PsAt (era wo EX) w.heap.size Ap cp ps) := Lib.hid (by
        rw [← hEX]
        exact HP.out.era_keep (fun b hb' _ => HB.out.block b hb') (fun b hb' h => by
          rcases h with h | h
          · exact h
          · have := (HOO.out.lt b h).2
            omega))
      have HSr : Hid (StV (era wo EX) w.heap.size (.slice As np cs) s) := Lib.hid (by
        rw [← hEX]
        exact StV.keeps.dig HS.out HB.out (fun b h => (HOO.out.lt b h).2))
      have HEQ := Lib.hid hEX
      clear hEX
      obtain ⟨b, o, u, S, hA, hb, hSj, q, hSu⟩ := SlOf.at2 HSr.out HSN.out hjn
      subst hA
      obtain ⟨Au, cu, rfl, hu1, hu2⟩ := hSu.len
      obtain ⟨ns, hns⟩ : ∃ z, S.length = z := ⟨_, rfl⟩
      rw [hns] at q hSu hu1
      have HNS := Lib.hid hns
      have HSU := Lib.hid hSu
      unfold maxLen at hu2
      obtain ⟨p, HPJ⟩ : ∃ p, Hid (ps[j]? = some p) := ⟨_, List.getElem?_eq_getElem (by rw [HPN.out]; exact hjn)⟩
      have HOJ := Lib.hid (HO.out.2 j p S HPJ.out hSj.out)
      have HP12 := Lib.hid (HPB.out p (List.mem_of_getElem? HPJ.out))
      have hbw : b < wo.heap.size := by omega
      clear hns hSu
      go_wp2
      go_loopw [9, 10] (fun sv iv wk => ∃ (k n2 c2 : Nat) (A2 : Option Addr) (S2 : List (List Pat)), k ≤ ns ∧ iv = .int .i64 (k : Int) ∧ sv = .slice A2 n2 c2 ∧ Hid (S2.length = n2) ∧ Hid (SetAt EX wk wo.heap.size A2 c2 S2) ∧ Hid (S2.Nodup ∧ ∀ r ∈ S2, r ∈ univ p) ∧ Hid (Below wo.heap.size wo wk)) (fun _ i _ => ns - (intOf i).toNat)
      case atStart => exact ⟨0, 0, 0, none, [], by omega, rfl, rfl, rfl, Lib.hid (OwnOf.nil.setAt ⟨HEX.out, Nat.le_refl _⟩), ⟨by simp, by simp⟩, Below.refl _ _⟩
      case round =>
        obtain ⟨k, n2, c2, A2, S2, hk, rfl, rfl, HN2, HS2, HU2, HBk⟩ := hrel
        obtain ⟨wk, hwk⟩ : ∃ z, z = wr := ⟨_, rfl⟩
        subst hwk
        have hbk := HBk.out.size
        have qk := (HBk.out.cell (p := ⟨b, o + j, none⟩) hbw).trans q
        have hbwk : b < wk.heap.size := by omega
        by_cases hkn : k < ns
        · have HSk : Hid (SetV (era wk (OwnX EX A2)) w.heap.size (.slice Au ns cu) S) := Lib.hid (SetV.keeps.dig HSU.out (HBk.out.mono hbs) (fun b h => Nat.le_trans hbs (own_ge HS2.out b h).2))
          obtain ⟨b3, o3, u3, r, hA3, hb3, hr, q3, Ar, cr, rfl, hPr⟩ := SlOf.at2 HSk.out HNS.out hkn
          subst hA3
          obtain ⟨nr, hnr⟩ : ∃ z, r.length = z := ⟨_, rfl⟩
          rw [hnr] at q3
          have hru := HOJ.out.2 r (List.mem_of_getElem? hr.out)
          have CQ := Lib.hid (CA.out r EX (univ p) S2 A2 c2 n2 Ar cr nr x none 0 0 [] wo.heap.size wk HS2.out HN2.out HU2.out (by have := univ_len p; have := HP12.out; omega) hbk (hPr.more (by omega)) hnr ps_nil rfl (by have := univ_nodes hru HP12.out; omega) (fun d hd => by rw [List.append_nil]; exact univ_clos hru hd))
          have hb3k : b3 < wk.heap.size := by omega
          clear hnr hru hPr
          go_wp2_with fail
          refine CQ.out.mono ?_
          rintro e w2 ⟨A6, c6, S6, rfl, hS6, hSU6, hK6, hG6⟩
          have HS6 := Lib.hid hS6
          have HSU6 := Lib.hid hSU6
          have HB6 : Hid (Below wo.heap.size wo w2) := Lib.hid (HBk.out.trans hK6.1)
          obtain ⟨n6, hn6⟩ : ∃ z, S6.length = z := ⟨_, rfl⟩
          have HN6 := Lib.hid hn6
          rw [hn6]
          clear hn6 hS6 hSU6 hK6 hG6
          go_wp2
          go_roundw
          case rel => exact ⟨k + 1, n6, c6, A6, S6, by omega, by go_num, rfl, HN6, HS6, HSU6, HB6⟩
          case measure => simp [intOf] <;> omega
        · have HPk : Hid (PsAt (era wk (OwnX EX A2)) w.heap.size Ap cp ps) := Lib.hid (HPr.out.era_keep (fun b hb' _ => HBk.out.block b (by omega)) (fun b hb' h => by
            rcases h with h | h
            · exact h
            · have := (own_ge HS2.out b h).2
              omega))
          obtain ⟨b4, o4, p4, B1, e1, B2, e2, hA4, hb4, hp4, q0', q1', q2', g1, g2, g3⟩ := HPk.out.at_ (k := j) (by rw [HPN.out]; exact hjn)
          obtain rfl : p4 = p := by
            have h1 := hp4.out
            rw [HPJ.out] at h1
            exact (Option.some.inj h1).symm
          subst hA4
          have q0 := (era_some q0').1
          have q1 := (era_some q1').1
          have q2 := (era_some q2').1
          have hb4k : b4 < wk.heap.size := by omega
          have HPV : Hid (PvAt (era wk (OwnX EX A2)) wk.heap.size p4 B1 e1 B2 e2) := Lib.hid ⟨g1, g2.more (by omega), g3.more (by omega)⟩
          obtain ⟨pk, hpk⟩ : ∃ z, p4.kind = z := ⟨_, rfl⟩
          obtain ⟨pn, hpn⟩ : ∃ z, p4.cls.length = z := ⟨_, rfl⟩
          obtain ⟨pz, hpz⟩ : ∃ z, p4.subs.length = z := ⟨_, rfl⟩
          obtain ⟨w3, hw3, HB3, HK3⟩ := boxV wk 77 #[.int .i64 pk, .slice B1 pn e1, .slice B2 pz e2]
          have HF3 := Lib.hid (ps_one (u := w3) (own_lt HS2.out) HPV.out (by rw [hpk, hpn, hpz]; exact hw3))
          rw [hpk] at q0
          rw [hpn] at q1
          rw [hpz] at q2
          clear q0' q1' q2' g1 g2 g3 hpk hpn hpz
          obtain ⟨vs, HO2, HR2⟩ : ∃ vs, Hid (wk.ownsRow wo.heap.size 75 1 (.slice A2 n2 c2) n2 vs) ∧ Hid (RsAt (era wk (OwnX EX A2)) wk.heap.size vs S2) := by
            obtain ⟨_, vs, h1, h2⟩ := HS2.out
            rw [HN2.out] at h1
            exact ⟨vs, h1, h2⟩
          have hn2 : n2 ≤ 13 := by
            have h1 := nodup_len HU2.out.1 HU2.out.2
            have h2 := univ_len p4
            have h3 := HP12.out
            rw [HN2.out] at h1
            omega
          have CH := Lib.hid (has_any S2 [p4] vs A2 (some ⟨wk.heap.size, 0, none⟩) c2 1 n2 1 w3 (ow_row (ow_below HO2.out HB3.out)).1 (HR2.out.of_era.below HB3.out).lt HF3.out.of_era HN2.out rfl (by omega))
          obtain ⟨lb, hlb⟩ : ∃ z, wk.heap.size = z := ⟨_, rfl⟩
          have HLB := Lib.hid hlb
          go_wp2_with fail
          rw [← hw3]
          rw [hlb] at CH HF3
          clear hw3 hlb
          refine CH.out.mono ?_
          rintro e w4 ⟨v, rfl, hv, hb4⟩
          have HB4 : Hid (Below wk.heap.size wk w4) := Lib.hid (HB3.out.trans (hb4.mono HB3.out.size))
          have HV4 := Lib.hid hv
          have HF4 := Lib.hid (HF3.out.keptB hb4)
          have HB4r : Hid (Below wo.heap.size wo w4) := Lib.hid (HBk.out.trans (HB4.out.mono hbk))
          have HS4 := Lib.hid (HS2.out.after HB4.out)
          clear hb4 hv
          cases v
          · have HNI : Hid ([p4] ∉ S2) := Lib.hid (fun h => by have := HV4.out.2 h; cases this)
            obtain ⟨w5, hw5, HB5, HK5⟩ := boxV w4 75 #[.slice (some ⟨lb, 0, none⟩) 1 1]
            have HL5 : Hid (Row w5 (w4.heap.size + 1) (some ⟨w4.heap.size, 0, none⟩) [.slice (some ⟨lb, 0, none⟩) 1 1]) := Lib.hid (by
              rw [hw5]
              exact row_lit w4 _ _)
            have HF5 := Lib.hid (HF4.out.keptB HB5.out)
            have HO5 := Lib.hid ((HS4.out.own HN2.out).after PsV.keeps HB5.out)
            have hB5 : wo.heap.size ≤ w5.heap.size := Nat.le_trans HB4r.out.size HB5.out.size
            go_wp2_with (first
              | (at_builtin
                 rw [← hw5]
                 refine wpList_push w5 PsV.keeps rfl (.tmp 46) (.tmp 48) 98 rfl EX wo.heap.size 75 i1 _ 24 Try.underlying98 hi1 hy0 hy1 hy2 rfl A2 c2 n2 S2 rfl HO5.out _ _ 1 _ [p4] rfl HL5.out rfl ⟨_, _, rfl, HF5.out⟩ (by simp only [maxLen]; omega) (by omega) hB5 ?_
                 intro A6 c6 w6 HO6' HK6 HG6
                 clear hw5
                 have HB6 : Hid (Below wo.heap.size wo w6) := Lib.hid ((HB4r.out.trans (HB5.out.mono HB4r.out.size)).trans HK6.out.1)
                 have HS6 := Lib.hid (HO6'.out.setAt ⟨HEX.out, HB6.out.size⟩)
                 have HN6 := Lib.hid HO6'.out.1
                 have HU6 : Hid ((S2 ++ [[p4]]).Nodup ∧ ∀ r ∈ S2 ++ [[p4]], r ∈ univ p4) := Lib.hid ⟨nodup_snoc HU2.out.1 HNI.out, fun r hr => by
                   rcases List.mem_append.1 hr with hr | hr
                   · exact HU2.out.2 r hr
                   · simp at hr
                     subst hr
                     exact List.mem_cons_self⟩
                 have HV6 := Lib.hid (HS6.out.sl HN6.out)
                 have HO6 := Lib.hid (HOO.out.after SetV.keeps HB6.out)
                 obtain ⟨w7, hw7, HB7, HK7⟩ := boxV w6 98 #[.slice A6 (n2 + 1) c6]
                 have HO7 := Lib.hid (HO6.out.after SetV.keeps HB7.out)
                 have HV7 : Hid (SetV (era w7 (OwnX E A')) w7.heap.size (.slice A6 (n2 + 1) c6) (S2 ++ [[p4]])) := Lib.hid (by
                   rw [HEQ.out]
                   exact SetV.keeps.eraGrow HV6.out HB7.out)
                 have HL7 : Hid (Row w7 (w6.heap.size + 1) (some ⟨w6.heap.size, 0, none⟩) [.slice A6 (n2 + 1) c6]) := Lib.hid (by
                   rw [hw7]
                   exact row_lit w6 _ _)
                 have hB7 : w.heap.size ≤ w7.heap.size := Nat.le_trans hbs (Nat.le_trans HB6.out.size HB7.out.size))
              | (at_builtin
                 rw [← hw7]
                 refine wpList_push w7 SetV.keeps rfl (.tmp 50) (.tmp 52) 97 rfl E w.heap.size 98 i0 _ 24 Try.underlying97 hi0 hz0 hz1 hz2 rfl A' c' j out rfl HO7.out _ _ 1 _ (S2 ++ [[p4]]) rfl HL7.out rfl HV7.out (by simp only [maxLen]; omega) (by omega) hB7 ?_
                 intro A8 c8 w8 HO8 HK8 HG8
                 clear hw7))
            have HB8 : Hid (Below w.heap.size w w8) := Lib.hid ((HB.out.trans ((HB6.out.trans (HB7.out.mono HB6.out.size)).mono hbs)).trans HK8.out.1)
            have HOK8 := Lib.hid (OkSt.snoc HOK.out HPJ.out HU6.out.1 HU6.out.2)
            go_roundw
            case rel => exact ⟨j + 1, c8, A8, out ++ [(S2 ++ [[p4]])], by omega, by go_num, rfl, HO8, HOK8, HB8⟩
            case measure => simp [intOf] <;> omega
          · have HV6 := Lib.hid (HS4.out.sl HN2.out)
            have HO6 := Lib.hid (HOO.out.after SetV.keeps HB4r.out)
            obtain ⟨w7, hw7, HB7, HK7⟩ := boxV w4 98 #[.slice A2 n2 c2]
            have HO7 := Lib.hid (HO6.out.after SetV.keeps HB7.out)
            have HV7 : Hid (SetV (era w7 (OwnX E A')) w7.heap.size (.slice A2 n2 c2) S2) := Lib.hid (by
              rw [HEQ.out]
              exact SetV.keeps.eraGrow HV6.out HB7.out)
            have HL7 : Hid (Row w7 (w4.heap.size + 1) (some ⟨w4.heap.size, 0, none⟩) [.slice A2 n2 c2]) := Lib.hid (by
              rw [hw7]
              exact row_lit w4 _ _)
            have hB7 : w.heap.size ≤ w7.heap.size := Nat.le_trans hbs (Nat.le_trans HB4r.out.size HB7.out.size)
            go_wp2_with (first
              | (at_builtin
                 rw [← hw7]
                 refine wpList_push w7 SetV.keeps rfl (.tmp 50) (.tmp 52) 97 rfl E w.heap.size 98 i0 _ 24 Try.underlying97 hi0 hz0 hz1 hz2 rfl A' c' j out rfl HO7.out _ _ 1 _ S2 rfl HL7.out rfl HV7.out (by simp only [maxLen]; omega) (by omega) hB7 ?_
                 intro A8 c8 w8 HO8 HK8 HG8
                 clear hw7))
            have HB8 : Hid (Below w.heap.size w w8) := Lib.hid ((HB.out.trans ((HB4r.out.trans (HB7.out.mono HB4r.out.size)).mono hbs)).trans HK8.out.1)
            have HOK8 := Lib.hid (OkSt.snoc HOK.out HPJ.out HU2.out.1 HU2.out.2)
            go_roundw
            case rel => exact ⟨j + 1, c8, A8, out ++ [S2], by omega, by go_num, rfl, HO8, HOK8, HB8⟩
            case measure => simp [intOf] <;> omega
    · go_wp2
      go_ret
      refine ⟨_, out, rfl, ?_, ?_, HB.out⟩
      · exact HOO.out.slE SetV.keeps HE.out
      · have := HOK.out
        rwa [List.take_of_length_le (by rw [HPN.out]; omega)] at this
end Go.Proofs.Ytkoojoogddndnaa
namespace Go.UtYtkoojoogddndnaa
open Go.RowKit
theorem SlOf.at1 {α : Type} {P : World → Nat → Value → α → Prop} {w : World} {B n c : Nat} {A : Option Addr} {xs : List α} (h : SlOf P w B (.slice A n c) xs) (hn : xs.length = n) {k : Nat} (hk : k < n) :
    ∃ b o u x, A = some ⟨b, o, none⟩ ∧ b < B ∧ Hid (xs[k]? = some x) ∧ w.cell? ⟨b, o + k, none⟩ = some u ∧ P w B u x := by
  subst hn
  obtain ⟨b, o, c', u, h1, h2, h3, h4, h5⟩ := h.at_ hk
  injection h1 with h1
  exact ⟨b, o, u, xs[k], h1, h3, Lib.hid (List.getElem?_eq_getElem hk), h4, h5⟩
theorem SetV.rs {w : World} {B n c : Nat} {A : Option Addr} {S : List (List Pat)} (h : SetV w B (.slice A n c) S) : ∃ vs, Row w B A vs ∧ RsAt w B vs S := by
  obtain ⟨A', c', vs, h1, h2, h3, h4⟩ := h
  injection h1 with e1 e2 e3
  subst e1
  exact ⟨vs, h3, RsAt.of_elts h4⟩
end Go.UtYtkoojoogddndnaa
namespace Go.Proofs.Ytkoojoogddndnaa
open Go.RowKit Go.UtYtkoojoogddndnaa
set_option maxRecDepth 100000 in
set_option maxHeartbeats 4000000 in
theorem sameState29_any (a b : List (List (List Pat))) (A1 A2 : Option Addr) (c1 c2 n m : Nat) (w : World) (h1 : StV w w.heap.size (.slice A1 n c1) a) (hn : a.length = n) (h2 : StV w w.heap.size (.slice A2 m c2) b) (hm : b.length = m) (hnm : n ≤ m) (hn6 : n ≤ 1000) (hs1 : ∀ S ∈ a, S.length ≤ 1000000) (hs2 : ∀ S ∈ b, S.length ≤ 1000000) :
    Calls Try.prog 88 #[.slice A1 n c1, .slice A2 m c2] w (RetB w) := by
  have H1 := Lib.hid h1
  have H2 := Lib.hid h2
  have HN := Lib.hid hn
  have HM := Lib.hid hm
  have HL1 := Lib.hid hs1
  have HL2 := Lib.hid hs2
  clear h1 h2 hn hm hs1 hs2
  unfold RetB
  go_enter Try.func88, Try.ntmps88
  go_wp2
  go_loopw [5] (fun iv wr => ∃ (j : Nat), j ≤ n ∧ iv = .int .i64 (j : Int) ∧ Hid (Below w.heap.size w wr)) (fun i _ => n - (intOf i).toNat)
  case atStart => exact ⟨0, by omega, rfl, Below.refl _ _⟩
  case round =>
    obtain ⟨j, hj, rfl, HB⟩ := hrel
    obtain ⟨wo, hwo⟩ : ∃ z, z = wr := ⟨_, rfl⟩
    subst hwo
    have hbs := HB.out.size
    by_cases hjn : j < n
    · obtain ⟨b1, o1, u1, S1, hA1, hb1, hS1, q1, hV1⟩ := (StV.keeps.grow H1.out HB.out).at1 HN.out hjn
      obtain ⟨b2, o2, u2, S2, hA2, hb2, hS2, q2, hV2⟩ := (StV.keeps.grow H2.out HB.out).at1 HM.out (k := j) (by omega)
      subst hA1 hA2
      have hjm : j < m := by omega
      obtain ⟨Au, cu, rfl, hu1, hu2⟩ := hV1.len
      obtain ⟨Bu, du, rfl, hv1, hv2⟩ := hV2.len
      have hl1 := HL1.out S1 (List.mem_of_getElem? hS1.out)
      have hl2 := HL2.out S2 (List.mem_of_getElem? hS2.out)
      obtain ⟨n1, hn1⟩ : ∃ z, S1.length = z := ⟨_, rfl⟩
      obtain ⟨n2, hn2⟩ : ∃ z, S2.length = z := ⟨_, rfl⟩
      rw [hn1] at q1 hV1 hl1
      rw [hn2] at q2 hV2 hl2
      have HN1 := Lib.hid hn1
      have HN2 := Lib.hid hn2
      have HV1 := Lib.hid hV1
      have HV2 := Lib.hid hV2
      clear hu1 hu2 hv1 hv2 hn1 hn2 hV1 hV2
      by_cases he : n1 = n2
      · subst he
        go_wp2
        go_quiet (fail)
        go_wp2
        go_loopw [6] (fun iv wr => ∃ (k : Nat), k ≤ n1 ∧ iv = .int .i64 (k : Int) ∧ Hid (Below wo.heap.size wo wr)) (fun i _ => n1 - (intOf i).toNat)
        case atStart => exact ⟨0, by omega, rfl, below_drewN (Below.refl _ _) _⟩
        case round =>
          obtain ⟨k, hk, rfl, HBk⟩ := hrel
          obtain ⟨wk, hwk⟩ : ∃ z, z = wr := ⟨_, rfl⟩
          subst hwk
          have hbk := HBk.out.size
          have HBw : Hid (Below w.heap.size w wk) := Lib.hid (HB.out.trans (HBk.out.mono hbs))
          have k1 := (HBk.out.cell (p := ⟨b1, o1 + j, none⟩) hb1).trans q1
          have k2 := (HBk.out.cell (p := ⟨b2, o2 + j, none⟩) hb2).trans q2
          have hb1k : b1 < wk.heap.size := by omega
          have hb2k : b2 < wk.heap.size := by omega
          by_cases hkn : k < n1
          · obtain ⟨b3, o3, u3, r, hA3, hb3, hr, k3, Ar, cr, rfl, hPr⟩ := (SetV.keeps.grow HV1.out HBk.out).at1 HN1.out hkn
            subst hA3
            obtain ⟨vs, hvs, hrs⟩ := (SetV.keeps.grow HV2.out HBk.out).rs
            obtain ⟨nr, hnr⟩ : ∃ z, r.length = z := ⟨_, rfl⟩
            have CH := Lib.hid (fun (u : World) (hu : Below wk.heap.size wk u) => has_any S2 r vs Bu Ar du cr n1 nr u (hvs.below hu).lt (hrs.below hu).lt (hPr.below hu).lt HN2.out hnr (by omega))
            rw [hnr] at k3
            have hb3k : b3 < wk.heap.size := hb3
            clear hnr hvs hrs hPr
            go_wp2
            refine wp_region_tree (fun w' => w'.cell? ⟨b1, o1 + j, none⟩ = some (.slice (some ⟨b3, o3, none⟩) n1 cu) ∧ w'.cell? ⟨b2, o2 + j, none⟩ = some (.slice Bu n1 du) ∧ w'.cell? ⟨b3, o3 + k, none⟩ = some (.slice Ar nr cr)) (.float 0 (.float 1 (.float 2 (.float 3 (.float 4 (.float 5 (.float 6 (.float 7 (.float 8 (.float 9 (.float 10 (.one 11 (.float 12 .done))))))))))))) (by kernel_rfl) (by kernel_rfl) (fun _ _ d _ _ h => by cases d <;> exact h) ⟨k1, k2, k3⟩ ?_
            repeat (first
              | (refine wpTr_fskip (by simp only [List.getElem?_toArray, List.getElem?_cons_zero, List.getElem?_cons_succ]; rfl) (by rfl) ?_
                 simp only [Act.put, List.setIfInBounds_toArray, List.set_cons_zero, List.set_cons_succ])
              | (refine wpTr_float (v := ?_) (by simp only [List.getElem?_toArray, List.getElem?_cons_zero, List.getElem?_cons_succ]; rfl) (by rfl) (fun w' hS => ?_) ?_
                 rotate_left
                 ((obtain ⟨e1', e2', e3'⟩ := hS); go_simp; first | done | rfl)
                 simp only [Act.put, List.setIfInBounds_toArray, List.set_cons_zero, List.set_cons_succ]))
            refine wpTr_one ?_
            refine stepTr_K (by simp only [List.getElem?_toArray, List.getElem?_cons_zero, List.getElem?_cons_succ]; rfl) (by rfl) (fun K hK => ?_)
            go_simp
            refine (CH.out wk.drew (Below.refl _ _).drew).mono ?_
            rintro e w4 ⟨z, rfl, _, hb4⟩
            have HB4 : Hid (Below wk.heap.size wk w4) := Lib.hid ((Below.refl _ _).drew.trans hb4)
            refine hK.out _ _ ⟨(HB4.out.cell (p := ⟨b1, o1 + j, none⟩) hb1k).trans k1, (HB4.out.cell (p := ⟨b2, o2 + j, none⟩) hb2k).trans k2, (HB4.out.cell (p := ⟨b3, o3 + k, none⟩) hb3k).trans k3⟩ ?_
            clear hK K hb4
            try simp only [Act.put, List.setIfInBounds_toArray, List.set_cons_zero, List.set_cons_succ]
            repeat (first
              | (refine wpTr_fskip (by simp only [List.getElem?_toArray, List.getElem?_cons_zero, List.getElem?_cons_succ]; rfl) (by rfl) ?_
                 simp only [Act.put, List.setIfInBounds_toArray, List.set_cons_zero, List.set_cons_succ])
              | (refine wpTr_float (v := ?_) (by simp only [List.getElem?_toArray, List.getElem?_cons_zero, List.getElem?_cons_succ]; rfl) (by rfl) (fun w' hS => ?_) ?_
                 rotate_left
                 ((skip); go_simp; first | done | rfl)
                 simp only [Act.put, List.setIfInBounds_toArray, List.set_cons_zero, List.set_cons_succ]))
            refine wpTr_done ?_
            cases z
            · have HBF : Hid (Below w.heap.size w w4) := Lib.hid (HBw.out.trans (HB4.out.mono HBw.out.size))
              go_wp2
              go_ret
              exact ⟨false, rfl, HBF.out⟩
            · have HBR : Hid (Below wo.heap.size wo w4) := Lib.hid (HBk.out.trans (HB4.out.mono hbk))
              go_wp2
              go_roundw
              case rel => exact ⟨k + 1, by omega, by go_num, HBR⟩
              case measure => simp [intOf] <;> omega
          · go_wp2
            go_roundw
            case rel => exact ⟨j + 1, by omega, by go_num, HBw⟩
            case measure => simp [intOf] <;> omega
      · have d1 : decide ((n1 : Int) = (n2 : Int)) = false := decide_eq_false (by omega)
        have d2 : decide (n1 = n2) = false := decide_eq_false he
        have hni : ¬ (n1 : Int) = (n2 : Int) := by omega
        go_wp2
        go_quiet (fail)
        go_wp2
        go_ret
        exact ⟨false, rfl, below_drewN HB.out _⟩
    · go_wp2
      go_ret
      exact ⟨true, rfl, HB.out⟩
/-- states whose sets are small -/
def SmSt (np : Nat) (s : List (List (List Pat))) : Prop := s.length = np ∧ ∀ S ∈ s, S.length ≤ 1000000
set_option maxRecDepth 100000 in
set_option maxHeartbeats 4000000 in
theorem find29_any (l : List (List (List (List Pat)))) (s : List (List (List Pat))) (Al As : Option Addr) (cl cs nl np : Nat) (w : World) (h1 : SlOf StV w w.heap.size (.slice Al nl cl) l) (hn : l.length = nl) (h2 : StV w w.heap.size (.slice As np cs) s) (hnp : np ≤ 1000) (hnl : nl ≤ 1000000) (hs1 : ∀ x ∈ l, SmSt np x) (hs2 : SmSt np s) :
    Calls Try.prog 70 #[.slice Al nl cl, .slice As np cs] w fun e w' => ∃ k : Nat, e = .returned (.int .i64 (k : Int)) ∧ k ≤ nl ∧ Below w.heap.size w w' := by
  have H1 := Lib.hid h1
  have H2 := Lib.hid h2
  have HN := Lib.hid hn
  have HL1 := Lib.hid hs1
  have HL2 := Lib.hid hs2
  clear h1 h2 hn hs1 hs2
  go_enter Try.func70, Try.ntmps70
  go_wp2
  go_loopw [5] (fun iv wr => ∃ (j : Nat), j ≤ nl ∧ iv = .int .i64 (j : Int) ∧ Hid (Below w.heap.size w wr)) (fun i _ => nl - (intOf i).toNat)
  case atStart => exact ⟨0, by omega, rfl, Below.refl _ _⟩
  case round =>
    obtain ⟨j, hj, rfl, HB⟩ := hrel
    have hbs := HB.out.size
    by_cases hjn : j < nl
    · obtain ⟨b1, o1, u1, x, hA1, hb1, hX, q1, hV1⟩ := (StV.keeps.slOf.grow H1.out HB.out).at1 HN.out hjn
      subst hA1
      obtain ⟨Au, cu, rfl, _, _⟩ := hV1.len
      obtain ⟨hx1, hx2⟩ := HL1.out x (List.mem_of_getElem? hX.out)
      rw [hx1] at q1 hV1
      have CS := Lib.hid (sameState29_any x s Au As cu cs np np wr hV1 hx1 (StV.keeps.grow H2.out HB.out) HL2.out.1 (Nat.le_refl _) hnp hx2 HL2.out.2)
      unfold RetB at CS
      clear hV1 hx1 hx2
      go_wp2_with fail
      refine CS.out.mono ?_
      rintro e w2 ⟨v, rfl, hb2⟩
      have HB2 := Lib.hid (HB.out.trans (hb2.mono hbs))
      clear hb2
      cases v
      · go_wp2
        go_roundw
        case rel => exact ⟨j + 1, by omega, by go_num, HB2⟩
        case measure => simp [intOf] <;> omega
      · go_wp2
        go_ret
        exact ⟨j, rfl, by omega, HB2.out⟩
    · go_wp2
      go_ret
      exact ⟨j, rfl, by omega, HB.out⟩
set_option maxRecDepth 100000 in
set_option maxHeartbeats 4000000 in
theorem marks29_any (s : List (List (List Pat))) (As : Option Addr) (cs np : Nat) (w : World) (h2 : StV w w.heap.size (.slice As np cs) s) (hn : s.length = np) (hnp : np ≤ 1000) (hs2 : ∀ S ∈ s, S.length ≤ 1000000) :
    Calls Try.prog 71 #[.slice As np cs] w fun e w' => ∃ (A : Option Addr) (c n : Nat) (out : List Int), e = .returned (.slice A n c) ∧ n ≤ np ∧ Hid (w'.ownsRow w.heap.size 3 1 (.slice A n c) n (ints out)) ∧ Hid (Below w.heap.size w w') := by
  obtain ⟨i0, hi0, hz0, hz1, hz2⟩ := info_parts in_info31
  have H2 := Lib.hid h2
  have HN := Lib.hid hn
  have HL2 := Lib.hid hs2
  clear h2 hn hs2
  go_enter Try.func71, Try.ntmps71
  go_wp2
  go_loopw [3, 4] (fun ov iv wr => ∃ (j n c : Nat) (A : Option Addr) (out : List Int), j ≤ np ∧ iv = .int .i64 (j : Int) ∧ ov = .slice A n c ∧ n ≤ j ∧ Hid (wr.ownsRow w.heap.size 3 1 (.slice A n c) n (ints out)) ∧ Hid (Below w.heap.size w wr)) (fun _ i _ => np - (intOf i).toNat)
  case atStart => exact ⟨0, 0, 0, none, [], by omega, rfl, rfl, by omega, own_nil _, Below.refl _ _⟩
  case round =>
    obtain ⟨j, n, c, A, out, hj, rfl, rfl, hnj, HO, HB⟩ := hrel
    obtain ⟨wo, hwo⟩ : ∃ z, z = wr := ⟨_, rfl⟩
    subst hwo
    have hbs := HB.out.size
    by_cases hjn : j < np
    · obtain ⟨b1, o1, u1, S, hA1, hb1, hS, q1, hV1⟩ := (StV.keeps.grow H2.out HB.out).at1 HN.out hjn
      subst hA1
      obtain ⟨Au, cu, rfl, _, hu2⟩ := hV1.len
      have hl1 := HL2.out S (List.mem_of_getElem? hS.out)
      obtain ⟨n1, hn1⟩ : ∃ z, S.length = z := ⟨_, rfl⟩
      rw [hn1] at q1 hV1 hl1
      have HN1 := Lib.hid hn1
      have HV1 := Lib.hid hV1
      clear hn1 hV1
      go_wp2
      go_loopw [3, 5] (fun ov iv wr => ∃ (k : Nat), k ≤ n1 ∧ ov = .slice A n c ∧ iv = .int .i64 (k : Int) ∧ Hid (Below wo.heap.size wo wr)) (fun _ i _ => n1 - (intOf i).toNat)
      case atStart => exact ⟨0, by omega, rfl, rfl, Below.refl _ _⟩
      case round =>
        obtain ⟨k, hk, rfl, rfl, HBk⟩ := hrel
        obtain ⟨wk, hwk⟩ : ∃ z, z = wr := ⟨_, rfl⟩
        subst hwk
        have hbk := HBk.out.size
        have HBw : Hid (Below w.heap.size w wk) := Lib.hid (HB.out.trans (HBk.out.mono hbs))
        have k1 := (HBk.out.cell (p := ⟨b1, o1 + j, none⟩) hb1).trans q1
        have hb1k : b1 < wk.heap.size := by omega
        by_cases hkn : k < n1
        · obtain ⟨b3, o3, u3, r, hA3, hb3, hr, k3, Ar, cr, rfl, hPr⟩ := (SetV.keeps.grow HV1.out HBk.out).at1 HN1.out hkn
          subst hA3
          obtain ⟨nr, hnr⟩ : ∃ z, r.length = z := ⟨_, rfl⟩
          have CR := Lib.hid (rest_any r Ar cr nr wk hPr hnr)
          unfold RetB at CR
          rw [hnr] at k3
          clear hnr hPr
          go_wp2_with fail
          refine CR.out.mono ?_
          rintro e w4 ⟨z, rfl, hb4⟩
          have HBR : Hid (Below wo.heap.size wo w4) := Lib.hid (HBk.out.trans (hb4.mono hbk))
          have HB4 : Hid (Below w.heap.size w w4) := Lib.hid (HB.out.trans (HBR.out.mono hbs))
          clear hb4
          cases z
          · go_wp2
            go_roundw
            case rel => exact ⟨k + 1, by omega, rfl, by go_num, HBR⟩
            case measure => simp [intOf] <;> omega
          · have HO4 := Lib.hid (ow_below HO.out HBR.out)
            have hbs4 := HB4.out.size
            go_wp2_with (first
              | (at_builtin
                 refine wpList_append_row _ rfl (.tmp 29) (.tmp 31) _ rfl w.heap.size 3 i0 _ 1 8 Try.underlying23 hi0 hz0 hz1 hz2 rfl (by omega) (.slice A n c) n (ints out) rfl (ow_alloc HO4.out _) _ _ 1 1 [Value.int .i64 (j : Int)] rfl rfl (row_lit w4 _ _) (ints_one1 _) (by simp only [maxLen]; omega) (by omega) (by simp; omega) ?_
                 intro q5 w5 o5 g5 t5
                 obtain ⟨A5, c5, rfl⟩ := ow_slice (m := n + 1) o5 rfl
                 rw [← ints_snoc] at o5
                 have HB5 : Hid (Below w.heap.size w w5) := (HB4.out.alloc hbs4 _).grown g5 (by simp; omega) (fun g hg => own_base HO4.out g hg)
                 have HO5 := Lib.hid o5
                 clear o5 g5 t5))
            go_roundw
            case rel => exact ⟨j + 1, n + 1, c5, A5, _, by omega, by go_num, rfl, by omega, HO5, HB5⟩
            case measure => simp [intOf] <;> omega
        · have HOk := Lib.hid (ow_below HO.out HBk.out)
          go_wp2
          go_roundw
          case rel => exact ⟨j + 1, n, c, A, out, by omega, by go_num, rfl, by omega, HOk, HBw⟩
          case measure => simp [intOf] <;> omega
    · go_wp2
      go_ret
      exact ⟨A, c, n, out, rfl, by omega, HO, HB⟩
end Go.Proofs.Ytkoojoogddndnaa
