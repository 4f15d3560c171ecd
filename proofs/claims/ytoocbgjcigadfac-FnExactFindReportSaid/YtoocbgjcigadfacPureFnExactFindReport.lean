/- The printed law FnExactFindReport, as a function of numbers and lists, answers true for all arguments that a call can be given; no conditions beyond the sizes that memory allows. -/
import Derived.Test.YtoocbgjcigadfacWkFnExactFindReportx3
namespace Go.Proofs.Ytoocbgjcigadfac.PureFnExactFindReport
open Go.RowKit Go.Proofs.Ytoocbgjcigadfac.PFnExactFindReport Go.Proofs.YtoocbgjcigadfacW.PrintWords Go.Proofs.YtoocbgjcigadfacW.PrintLast Go.Proofs.YtoocbgjcigadfacW.PrintMore
set_option linter.unusedVariables false
set_option linter.unusedSimpArgs false

/-- The pure statement of laws_FnExactFindReport, typed by lawfill.py as print.sh types it where it does. -/
def laws_FnExactFindReport.Pure : Prop := ∀ (l0 : List S26) (a1 : Int), l0.length ≤ maxLen → (∀ x ∈ l0, x.f2.length ≤ maxLen ∧ x.f5.length ≤ maxLen) → (Lit.int .i64 a1).wf = true → ∃ k, laws_FnExactFindReport.f k l0 a1 = some true

def inr (a b c : Int) : Bool := decide (b ≤ a) && decide (a ≤ c)
theorem inr_iff (a b c : Int) : inr a b c = true ↔ b ≤ a ∧ a ≤ c := by unfold inr; simp
theorem rd_at (xs : List Int) (i : Nat) (h : i < xs.length) : rd xs (i : Int) = xs[i] := by
  unfold rd
  simp [List.getD_eq_getElem?_getD, h]
theorem succ_at (i n : Nat) (h : i < n) (hn : n ≤ 4611686018427387904) : wrap64 ((i : Int) + 1) = ((i + 1 : Nat) : Int) := by
  unfold wrap64
  omega
theorem wrap_id (n : Int) (h0 : -9223372036854775808 ≤ n) (h1 : n ≤ 9223372036854775807) : wrap64 n = n := by
  unfold wrap64
  omega
theorem laws_toIntS_loop (l : List Int) (hl : l.length ≤ 4611686018427387904) : ∀ (d k i : Nat) (out : List Int), i + d = l.length → d < k → out.length = l.length → (∀ j, j < i → out[j]? = l[j]?) → laws_toIntS.l0 k l out (i : Int) = some l := by
  intro d
  induction d with
  | zero =>
    intro k i out hi hk ho hj
    obtain ⟨k, rfl⟩ : ∃ m, k = m + 1 := ⟨k - 1, by omega⟩
    simp only [laws_toIntS.l0]
    rw [if_neg (by omega)]
    congr 1
    apply List.ext_getElem?
    intro j
    rcases Nat.lt_or_ge j i with h | h
    · exact hj j h
    · rw [List.getElem?_eq_none (by omega), List.getElem?_eq_none (by omega)]
  | succ d ih =>
    intro k i out hi hk ho hj
    obtain ⟨k, rfl⟩ : ∃ m, k = m + 1 := ⟨k - 1, by omega⟩
    simp only [laws_toIntS.l0]
    rw [if_pos (by omega), if_pos (by omega), if_pos (by omega), succ_at i l.length (by omega) hl, rd_at l i (by omega)]
    refine ih k (i + 1) _ (by omega) (by omega) (by simp [ho]) ?_
    intro j h
    rw [show ((i : Int)).toNat = i by omega, List.getElem?_set]
    by_cases e : i = j
    · subst e
      rw [if_pos rfl, if_pos (by omega), List.getElem?_eq_getElem (by omega)]
    · rw [if_neg e]
      exact hj j (by omega)
theorem laws_toIntS_eq (k : Nat) (l : List Int) (hk : l.length < k) (hl : l.length ≤ 1048576) : laws_toIntS.f k l = some l := by
  unfold laws_toIntS.f
  rw [if_pos (by omega), if_pos (by omega)]
  exact laws_toIntS_loop l (by omega) l.length k 0 _ (by omega) (by omega) (by simp) (by omega)
theorem laws_eqIntS_loop (l : List Int) (hl : l.length ≤ 4611686018427387904) : ∀ (d k i : Nat), i + d = l.length → d < k → laws_eqIntS.l0 k l l (i : Int) = some true := by
  intro d
  induction d with
  | zero =>
    intro k i hi hk
    obtain ⟨k, rfl⟩ : ∃ m, k = m + 1 := ⟨k - 1, by omega⟩
    simp only [laws_eqIntS.l0]
    rw [if_neg (by omega)]
  | succ d ih =>
    intro k i hi hk
    obtain ⟨k, rfl⟩ : ∃ m, k = m + 1 := ⟨k - 1, by omega⟩
    simp only [laws_eqIntS.l0]
    rw [if_pos (by omega), if_pos (by omega), if_pos (by omega), if_pos trivial, succ_at i l.length (by omega) hl]
    exact ih k (i + 1) (by omega) (by omega)
theorem laws_eqIntS_self (k : Nat) (l : List Int) (hk : l.length < k) (hl : l.length ≤ 4611686018427387904) : laws_eqIntS.f k l l = some true := by
  unfold laws_eqIntS.f
  rw [if_pos rfl]
  exact laws_eqIntS_loop l hl l.length k 0 (by omega) (by omega)
theorem toReport_eq (k : Nat) (a b : Int) (c : List Int) (d e : Int) (p : List Int) (s u : Int) (hc : c.length ≤ 1048576) (hp : p.length ≤ 1048576) (hk : c.length < k) (hk2 : p.length < k) :
    laws_toReport.f k a b c d e p s u = some (a, b, c, d, e, p, s, u) := by
  unfold laws_toReport.f laws_toSpan.f
  simp only [laws_toIntS_eq k c hk hc, laws_toIntS_eq k p hk2 hp, Option.bind_some]
theorem eqReport_self (k : Nat) (a b : Int) (c : List Int) (d e : Int) (p : List Int) (s u : Int) (hc : c.length ≤ 1048576) (hp : p.length ≤ 1048576) (hk : c.length < k) (hk2 : p.length < k) :
    laws_eqReport.f k a b c d e p s u a b c d e p s u = some true := by
  unfold laws_eqReport.f laws_eqSpan.f
  simp only [laws_eqIntS_self k c hk (by omega), laws_eqIntS_self k p hk2 (by omega), Option.bind_some, if_true]
theorem szReport (a b : Int) (c : List Int) (d e : Int) (p : List Int) (s u n : Int) (hn : 0 ≤ n ∧ n ≤ 1048576) (hc : c.length ≤ maxLen) (hp : p.length ≤ maxLen) :
    laws_szReport.f a b c d e p s u n = some (if n < (c.length : Int) then -1 else if n - (c.length : Int) < (p.length : Int) then -1 else n - (c.length : Int) - (p.length : Int)) := by
  have hc' : c.length ≤ 9223372036854775807 := hc
  have hp' : p.length ≤ 9223372036854775807 := hp
  unfold laws_szReport.f laws_szIntS.f
  rw [wrap_id (n - (c.length : Int)) (by omega) (by omega)]
  by_cases h1 : n < (c.length : Int)
  · rw [if_pos h1, if_pos (show n - (c.length : Int) < 0 by omega), Option.bind_some, if_pos (by omega)]
  · rw [if_neg h1, if_neg (show ¬ n - (c.length : Int) < 0 by omega), Option.bind_some, if_neg (by omega), wrap_id (n - (c.length : Int) - (p.length : Int)) (by omega) (by omega)]
    by_cases h2 : n - (c.length : Int) < (p.length : Int)
    · rw [if_pos h2, if_pos (show n - (c.length : Int) - (p.length : Int) < 0 by omega), Option.bind_some, if_pos (by omega)]
    · rw [if_neg h2, if_neg (show ¬ n - (c.length : Int) - (p.length : Int) < 0 by omega), Option.bind_some, if_neg (by omega)]
theorem in_at (xs : List S26) (i : Nat) (h : i < xs.length) : rd_T26 xs (i : Int) = xs[i] := by
  unfold rd_T26
  simp [List.getD_eq_getElem?_getD, h]
theorem out_at (xs : List S31) (i : Nat) (h : i < xs.length) : rd_T31 xs (i : Int) = xs[i] := by
  unfold rd_T31
  simp [List.getD_eq_getElem?_getD, h]
def small (x : S31) : Prop := x.f2.length ≤ 1048576 ∧ x.f5.length ≤ 1048576
def conv (x : S26) : S31 := ⟨x.f0, x.f1, x.f2, x.f3, x.f4, x.f5, ⟨x.f6.f0, x.f6.f1⟩⟩
theorem sz_loop (l : List S26) (hl : l.length ≤ 1048576) (hm : ∀ x ∈ l, x.f2.length ≤ maxLen ∧ x.f5.length ≤ maxLen) : ∀ (d k i : Nat) (n : Int), i + d = l.length → d < k → 0 ≤ n ∧ n ≤ 1048576 → ∃ r, laws_szReportS.l0 k l n (i : Int) = some r ∧ (0 ≤ r → ∀ x ∈ l.drop i, small (conv x)) := by
  intro d
  induction d with
  | zero =>
    intro k i n hi hk hn
    obtain ⟨k, rfl⟩ : ∃ m, k = m + 1 := ⟨k - 1, by omega⟩
    simp only [laws_szReportS.l0]
    rw [if_neg (by omega)]
    refine ⟨n, rfl, fun _ x hx => ?_⟩
    rw [List.drop_of_length_le (by omega)] at hx
    simp at hx
  | succ d ih =>
    intro k i n hi hk hn
    obtain ⟨k, rfl⟩ : ∃ m, k = m + 1 := ⟨k - 1, by omega⟩
    have hil : i < l.length := by omega
    obtain ⟨m1, m2⟩ := hm _ (List.getElem_mem hil)
    simp only [laws_szReportS.l0]
    rw [if_pos (by omega), if_pos (by omega), in_at l i hil, szReport _ _ _ _ _ _ _ _ n hn m1 m2, Option.bind_some]
    by_cases h1 : n < ((l[i]).f2.length : Int)
    · rw [if_pos h1, if_pos (by omega)]
      exact ⟨-1, rfl, fun h => by omega⟩
    by_cases h2 : n - ((l[i]).f2.length : Int) < ((l[i]).f5.length : Int)
    · rw [if_neg h1, if_pos h2, if_pos (by omega)]
      exact ⟨-1, rfl, fun h => by omega⟩
    rw [if_neg h1, if_neg h2, if_neg (by omega), succ_at i l.length hil (by omega)]
    obtain ⟨r, e, hr⟩ := ih k (i + 1) (n - ((l[i]).f2.length : Int) - ((l[i]).f5.length : Int)) (by omega) (by omega) (by omega)
    refine ⟨r, e, fun h x hx => ?_⟩
    rw [List.drop_eq_getElem_cons hil] at hx
    rcases List.mem_cons.1 hx with rfl | hx
    · exact ⟨show (l[i]).f2.length ≤ 1048576 by omega, show (l[i]).f5.length ≤ 1048576 by omega⟩
    · exact hr h x hx
theorem to_loop (l : List S26) (hl : l.length ≤ 1048576) (hs : ∀ x ∈ l, small (conv x)) : ∀ (d k i : Nat) (out : List S31), i + d = l.length → d + 1048576 < k → out.length = l.length → (∀ j, j < i → out[j]? = (l[j]?).map conv) → laws_toReportS.l0 k l out (i : Int) = some (l.map conv) := by
  intro d
  induction d with
  | zero =>
    intro k i out hi hk ho hj
    obtain ⟨k, rfl⟩ : ∃ m, k = m + 1 := ⟨k - 1, by omega⟩
    simp only [laws_toReportS.l0]
    rw [if_neg (by omega)]
    congr 1
    apply List.ext_getElem?
    intro j
    rw [List.getElem?_map]
    rcases Nat.lt_or_ge j i with h | h
    · exact hj j h
    · rw [List.getElem?_eq_none (by omega), List.getElem?_eq_none (by omega)]
      rfl
  | succ d ih =>
    intro k i out hi hk ho hj
    obtain ⟨k, rfl⟩ : ∃ m, k = m + 1 := ⟨k - 1, by omega⟩
    have hil : i < l.length := by omega
    obtain ⟨s1, s2⟩ := hs _ (List.getElem_mem hil)
    have s1' : (l[i]).f2.length ≤ 1048576 := s1
    have s2' : (l[i]).f5.length ≤ 1048576 := s2
    simp only [laws_toReportS.l0]
    rw [if_pos (by omega), if_pos (by omega), in_at l i hil, toReport_eq k _ _ _ _ _ _ _ _ s1' s2' (by omega) (by omega), Option.bind_some, if_pos (by omega), succ_at i l.length hil (by omega), show ((i : Int)).toNat = i by omega]
    refine ih k (i + 1) (out.set i (conv l[i])) (by omega) (by omega) (by simp [ho]) ?_
    intro j h
    rw [List.getElem?_set]
    by_cases e : i = j
    · subst e
      rw [if_pos rfl, if_pos (by omega), List.getElem?_eq_getElem (by omega)]
      rfl
    · rw [if_neg e]
      exact hj j (by omega)
theorem eq_loop (l : List S31) (hl : l.length ≤ 1048576) (hs : ∀ x ∈ l, small x) : ∀ (d k i : Nat), i + d = l.length → d + 1048576 < k → laws_eqReportS.l0 k l l (i : Int) = some true := by
  intro d
  induction d with
  | zero =>
    intro k i hi hk
    obtain ⟨k, rfl⟩ : ∃ m, k = m + 1 := ⟨k - 1, by omega⟩
    simp only [laws_eqReportS.l0]
    rw [if_neg (by omega)]
  | succ d ih =>
    intro k i hi hk
    obtain ⟨k, rfl⟩ : ∃ m, k = m + 1 := ⟨k - 1, by omega⟩
    have hil : i < l.length := by omega
    obtain ⟨s1, s2⟩ := hs _ (List.getElem_mem hil)
    simp only [laws_eqReportS.l0]
    rw [if_pos (by omega), if_pos (by omega), if_pos (by omega), out_at l i hil, eqReport_self k _ _ _ _ _ _ _ _ s1 s2 (by omega) (by omega), Option.bind_some, if_pos rfl, succ_at i l.length hil (by omega)]
    exact ih k (i + 1) (by omega) (by omega)
theorem both (x : List S31) (a : Int) (hl : x.length ≤ 4611686018427387904) : ∀ (d k i : Nat), i + d = x.length → d < k → ∃ r, spec_FindReport.l0 k x a (i : Int) = some r ∧ impl_FindReport.l0 k x a (i : Int) = some r := by
  intro d
  induction d with
  | zero =>
    intro k i hi hk
    obtain ⟨k, rfl⟩ : ∃ m, k = m + 1 := ⟨k - 1, by omega⟩
    simp only [spec_FindReport.l0, impl_FindReport.l0]
    rw [if_neg (by omega), if_neg (by omega)]
    exact ⟨_, rfl, rfl⟩
  | succ d ih =>
    intro k i hi hk
    obtain ⟨k, rfl⟩ : ∃ m, k = m + 1 := ⟨k - 1, by omega⟩
    have h1 : (i : Int) < (x.length : Int) := by omega
    have h2 : (0 : Int) ≤ (i : Int) := by omega
    simp only [spec_FindReport.l0, impl_FindReport.l0, if_pos h1, if_pos h2, succ_at i x.length (by omega) hl]
    by_cases e : (rd_T31 x (i : Int)).f0 = a
    · rw [if_pos e, if_pos e]
      exact ⟨_, rfl, rfl⟩
    · rw [if_neg e, if_neg e]
      exact ih k (i + 1) (by omega) (by omega)
theorem main : laws_FnExactFindReport.Pure := by
  intro l a1 hm hi hw
  obtain ⟨K, hK⟩ : ∃ K, K = l.length + 1048580 := ⟨_, rfl⟩
  refine ⟨K, ?_⟩
  unfold laws_FnExactFindReport.f laws_szReportS.f
  have hm' : l.length ≤ 9223372036854775807 := hm
  rw [wrap_id (1048576 - (l.length : Int)) (by omega) (by omega)]
  by_cases h1 : 1048576 - (l.length : Int) < 0
  · rw [if_pos h1, Option.bind_some, if_pos (by omega)]
  rw [if_neg h1]
  obtain ⟨r0, e0, hs⟩ := sz_loop l (by omega) hi l.length K 0 (1048576 - (l.length : Int)) (by omega) (by omega) (by omega)
  rw [show ((0 : Nat) : Int) = 0 from rfl] at e0
  rw [e0, Option.bind_some]
  by_cases h2 : r0 < 0
  · rw [if_pos h2]
  rw [if_neg h2]
  have hs' := hs (by omega)
  rw [List.drop_zero] at hs'
  have e1 : laws_toReportS.f K l = some (l.map conv) := by
    unfold laws_toReportS.f
    rw [if_pos (by omega), if_pos (by omega)]
    exact to_loop l (by omega) hs' l.length K 0 _ (by omega) (by omega) (by simp) (by omega)
  have hlen : (l.map conv).length = l.length := by simp
  have hsm : ∀ x ∈ l.map conv, small x := by
    intro x hx
    obtain ⟨y, hy, rfl⟩ := List.mem_map.1 hx
    exact hs' y hy
  generalize l.map conv = x at e1 hlen hsm
  obtain ⟨r, e2a, e3a⟩ := both x a1 (by omega) x.length K 0 (by omega) (by omega)
  have e2 : spec_FindReport.f K x a1 = some r := e2a
  have e3 : impl_FindReport.f K x a1 = some r := e3a
  have e4 : laws_eqReportS.f K x x = some true := by
    unfold laws_eqReportS.f
    rw [if_pos rfl]
    exact eq_loop x (by omega) hsm x.length K 0 (by omega) (by omega)
  simp only [e1, e2, e3, e4, Option.bind_some, bne_self_eq_false, Bool.false_eq_true, if_false, if_true]

end Go.Proofs.Ytoocbgjcigadfac.PureFnExactFindReport
namespace Go.Proofs.Ytoocbgjcigadfac.Pure
/-- The pure statement. -/
theorem FnExactFindReport : Go.Proofs.Ytoocbgjcigadfac.PureFnExactFindReport.laws_FnExactFindReport.Pure := Go.Proofs.Ytoocbgjcigadfac.PureFnExactFindReport.main
end Go.Proofs.Ytoocbgjcigadfac.Pure
