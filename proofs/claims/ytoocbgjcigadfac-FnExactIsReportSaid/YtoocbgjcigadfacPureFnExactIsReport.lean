/- The printed law FnExactIsReport, as a function of numbers and lists, answers true for all arguments that a call can be given; no conditions beyond the sizes that memory allows. -/
import Derived.Test.YtoocbgjcigadfacPFnExactIsReportx3
namespace Go.Proofs.Ytoocbgjcigadfac.PureFnExactIsReport
open Go.RowKit Go.Proofs.Ytoocbgjcigadfac.PFnExactIsReport Go.Proofs.YtoocbgjcigadfacW.PrintWords Go.Proofs.YtoocbgjcigadfacW.PrintLast Go.Proofs.YtoocbgjcigadfacW.PrintMore
set_option linter.unusedVariables false
set_option linter.unusedSimpArgs false

/-- The pure statement of laws_FnExactIsReport, typed by lawfill.py as print.sh types it where it does. -/
def laws_FnExactIsReport.Pure : Prop := ∀ (a0_0 : Int) (a0_1 : Int) (l0_2 : List Int) (a0_3 : Int) (a0_4 : Int) (l0_5 : List Int) (a0_6 : Int) (a0_7 : Int), (Lit.int .i64 a0_0).wf = true → (Lit.int .i64 a0_1).wf = true → l0_2.length ≤ maxLen → (∀ x ∈ l0_2, (Lit.int .i64 x).wf = true) → (Lit.int .i64 a0_3).wf = true → (Lit.int .i64 a0_4).wf = true → l0_5.length ≤ maxLen → (∀ x ∈ l0_5, (Lit.int .i64 x).wf = true) → (Lit.int .i64 a0_6).wf = true → (Lit.int .i64 a0_7).wf = true → ∃ k, laws_FnExactIsReport.f k a0_0 a0_1 l0_2 a0_3 a0_4 l0_5 a0_6 a0_7 = some true

def inr (a b c : Int) : Bool := decide (b ≤ a) && decide (a ≤ c)
theorem inr_iff (a b c : Int) : inr a b c = true ↔ b ≤ a ∧ a ≤ c := by unfold inr; simp
theorem l1In_eq (a b c : Int) : spec_l1In.f a b c = some (inr a b c) := by
  unfold spec_l1In.f inr
  by_cases h : b ≤ a <;> simp [h]
theorem inRange_eq (a b c : Int) : impl_InRange.f a b c = some (inr a b c) := by
  unfold impl_InRange.f inr
  by_cases h : b ≤ a <;> simp [h]
theorem rd_at (xs : List Int) (i : Nat) (h : i < xs.length) : rd xs (i : Int) = xs[i] := by
  unfold rd
  simp [List.getD_eq_getElem?_getD, h]
theorem succ_at (i n : Nat) (h : i < n) (hn : n ≤ 4611686018427387904) : wrap64 ((i : Int) + 1) = ((i + 1 : Nat) : Int) := by
  unfold wrap64
  omega
theorem wrap_id (n : Int) (h0 : -9223372036854775808 ≤ n) (h1 : n ≤ 9223372036854775807) : wrap64 n = n := by
  unfold wrap64
  omega
def okSpan (a b : Int) : Bool := inr a 0 100000 && inr b 0 100000 && decide (a ≤ b)
theorem sIsSpan (a b : Int) : spec_IsSpan.f a b = some (okSpan a b) := by
  unfold spec_IsSpan.f okSpan
  simp only [l1In_eq, Option.bind_some]
  cases inr a 0 100000 <;> cases inr b 0 100000 <;> simp
theorem iIsSpan (a b : Int) : impl_IsSpan.f a b = some (okSpan a b) := by
  unfold impl_IsSpan.f okSpan
  simp only [inRange_eq, Option.bind_some]
  cases inr a 0 100000 <;> cases inr b 0 100000 <;> simp
theorem laws_toIntS_loop (l : List Int) (hl : l.length ≤ 4611686018427387904) : ∀ (d k i : Nat) (out : List Int), i + d = l.length → d < k → out.length = l.length → (∀ j, j < i → out[j]? = l[j]?) → laws_toIntS.l0 k l out (i : Int) = some l := by
  intro d
  induction d with
  | zero =>
    intro k i out hi hk ho hj
    obtain ⟨k, rfl⟩ : ∃ m, k = m + 1 := ⟨k - 1, by omega⟩
    simp only [laws_toIntS.l0]
    rw [if_neg (by omega)]
    congr 1
    apply List.ext_getElem?
    intro j
    rcases Nat.lt_or_ge j i with h | h
    · exact hj j h
    · rw [List.getElem?_eq_none (by omega), List.getElem?_eq_none (by omega)]
  | succ d ih =>
    intro k i out hi hk ho hj
    obtain ⟨k, rfl⟩ : ∃ m, k = m + 1 := ⟨k - 1, by omega⟩
    simp only [laws_toIntS.l0]
    rw [if_pos (by omega), if_pos (by omega), if_pos (by omega), succ_at i l.length (by omega) hl, rd_at l i (by omega)]
    refine ih k (i + 1) _ (by omega) (by omega) (by simp [ho]) ?_
    intro j h
    rw [show ((i : Int)).toNat = i by omega, List.getElem?_set]
    by_cases e : i = j
    · subst e
      rw [if_pos rfl, if_pos (by omega), List.getElem?_eq_getElem (by omega)]
    · rw [if_neg e]
      exact hj j (by omega)
theorem laws_toIntS_eq (k : Nat) (l : List Int) (hk : l.length < k) (hl : l.length ≤ 1048576) : laws_toIntS.f k l = some l := by
  unfold laws_toIntS.f
  rw [if_pos (by omega), if_pos (by omega)]
  exact laws_toIntS_loop l (by omega) l.length k 0 _ (by omega) (by omega) (by simp) (by omega)
theorem laws_eqIntS_loop (l : List Int) (hl : l.length ≤ 4611686018427387904) : ∀ (d k i : Nat), i + d = l.length → d < k → laws_eqIntS.l0 k l l (i : Int) = some true := by
  intro d
  induction d with
  | zero =>
    intro k i hi hk
    obtain ⟨k, rfl⟩ : ∃ m, k = m + 1 := ⟨k - 1, by omega⟩
    simp only [laws_eqIntS.l0]
    rw [if_neg (by omega)]
  | succ d ih =>
    intro k i hi hk
    obtain ⟨k, rfl⟩ : ∃ m, k = m + 1 := ⟨k - 1, by omega⟩
    simp only [laws_eqIntS.l0]
    rw [if_pos (by omega), if_pos (by omega), if_pos (by omega), if_pos trivial, succ_at i l.length (by omega) hl]
    exact ih k (i + 1) (by omega) (by omega)
theorem laws_eqIntS_self (k : Nat) (l : List Int) (hk : l.length < k) (hl : l.length ≤ 4611686018427387904) : laws_eqIntS.f k l l = some true := by
  unfold laws_eqIntS.f
  rw [if_pos rfl]
  exact laws_eqIntS_loop l hl l.length k 0 (by omega) (by omega)
theorem toReport_eq (k : Nat) (a b : Int) (c : List Int) (d e : Int) (p : List Int) (s u : Int) (hc : c.length ≤ 1048576) (hp : p.length ≤ 1048576) (hk : c.length < k) (hk2 : p.length < k) :
    laws_toReport.f k a b c d e p s u = some (a, b, c, d, e, p, s, u) := by
  unfold laws_toReport.f laws_toSpan.f
  simp only [laws_toIntS_eq k c hk hc, laws_toIntS_eq k p hk2 hp, Option.bind_some]
theorem eqReport_self (k : Nat) (a b : Int) (c : List Int) (d e : Int) (p : List Int) (s u : Int) (hc : c.length ≤ 1048576) (hp : p.length ≤ 1048576) (hk : c.length < k) (hk2 : p.length < k) :
    laws_eqReport.f k a b c d e p s u a b c d e p s u = some true := by
  unfold laws_eqReport.f laws_eqSpan.f
  simp only [laws_eqIntS_self k c hk (by omega), laws_eqIntS_self k p hk2 (by omega), Option.bind_some, if_true]
theorem szReport (a b : Int) (c : List Int) (d e : Int) (p : List Int) (s u n : Int) (hn : 0 ≤ n ∧ n ≤ 1048576) (hc : c.length ≤ maxLen) (hp : p.length ≤ maxLen) :
    laws_szReport.f a b c d e p s u n = some (if n < (c.length : Int) then -1 else if n - (c.length : Int) < (p.length : Int) then -1 else n - (c.length : Int) - (p.length : Int)) := by
  have hc' : c.length ≤ 9223372036854775807 := hc
  have hp' : p.length ≤ 9223372036854775807 := hp
  unfold laws_szReport.f laws_szIntS.f
  rw [wrap_id (n - (c.length : Int)) (by omega) (by omega)]
  by_cases h1 : n < (c.length : Int)
  · rw [if_pos h1, if_pos (show n - (c.length : Int) < 0 by omega), Option.bind_some, if_pos (by omega)]
  · rw [if_neg h1, if_neg (show ¬ n - (c.length : Int) < 0 by omega), Option.bind_some, if_neg (by omega), wrap_id (n - (c.length : Int) - (p.length : Int)) (by omega) (by omega)]
    by_cases h2 : n - (c.length : Int) < (p.length : Int)
    · rw [if_pos h2, if_pos (show n - (c.length : Int) - (p.length : Int) < 0 by omega), Option.bind_some, if_pos (by omega)]
    · rw [if_neg h2, if_neg (show ¬ n - (c.length : Int) - (p.length : Int) < 0 by omega), Option.bind_some, if_neg (by omega)]
theorem ascboth (l : List Int) (lo hi : Int) (hl : l.length ≤ 1048576) : ∀ (d k i : Nat), i + d = l.length → d < k → ∃ r, spec_l7Ids.l0 k l lo hi (i : Int) = some r ∧ impl_isAscending.l0 k l lo hi l (l.length : Int) (i : Int) = some r := by
  intro d
  induction d with
  | zero =>
    intro k i hi' hk
    obtain ⟨k, rfl⟩ : ∃ m, k = m + 1 := ⟨k - 1, by omega⟩
    have h1 : ¬ (i : Int) < (l.length : Int) := by omega
    simp only [spec_l7Ids.l0, impl_isAscending.l0, if_neg h1]
    exact ⟨true, rfl, rfl⟩
  | succ d ih =>
    intro k i hi' hk
    obtain ⟨k, rfl⟩ : ∃ m, k = m + 1 := ⟨k - 1, by omega⟩
    obtain ⟨r, h3, h4⟩ := ih k (i + 1) (by omega) (by omega)
    have h1 : (i : Int) < (l.length : Int) := by omega
    have h2 : (0 : Int) ≤ (i : Int) := by omega
    simp only [spec_l7Ids.l0, impl_isAscending.l0, l1In_eq, inRange_eq, Option.bind_some, if_pos h1, if_pos h2, succ_at i l.length (by omega) (by omega), h3, h4]
    cases inr (rd l (i : Int)) lo hi
    · exact ⟨false, rfl, rfl⟩
    · simp only [if_true]
      by_cases hp : (i : Int) > 0
      · have h6 : (0 : Int) ≤ (i : Int) - 1 := by omega
        have h7 : (i : Int) - 1 < (l.length : Int) := by omega
        simp only [if_pos hp, wrap_id ((i : Int) - 1) (by omega) (by omega), if_pos h6, if_pos h7, ge_iff_le]
        by_cases hq : rd l (i : Int) ≤ rd l ((i : Int) - 1)
        · simp only [if_pos hq]
          exact ⟨false, rfl, rfl⟩
        · simp only [if_neg hq]
          exact ⟨r, rfl, rfl⟩
      · simp only [if_neg hp]
        exact ⟨r, rfl, rfl⟩
theorem ascsame (k : Nat) (l : List Int) (lo hi : Int) (hl : l.length ≤ 1048576) (hk : l.length < k) : ∃ r, spec_l7Ids.f k l lo hi = some r ∧ impl_isAscending.f k l lo hi = some r :=
  ascboth l lo hi hl l.length k 0 (by omega) hk
theorem reportsame (k : Nat) (a b : Int) (c : List Int) (d e : Int) (p : List Int) (s u : Int) (hc : c.length ≤ 1048576) (hp : p.length ≤ 1048576) (hk : c.length < k) (hk2 : p.length < k) :
    ∃ r, spec_IsReport.f k a b c d e p s u = some r ∧ impl_IsReport.f k a b c d e p s u = some r := by
  obtain ⟨r1, e1, e2⟩ := ascsame k c 0 7 hc hk
  obtain ⟨r2, e3, e4⟩ := ascsame k p 1 30 hp hk2
  unfold spec_IsReport.f impl_IsReport.f
  simp only [l1In_eq, inRange_eq, sIsSpan, iIsSpan, e1, e2, e3, e4, Option.bind_some, ge_iff_le]
  cases inr a 1 999
  · exact ⟨false, rfl, rfl⟩
  cases inr b 1 8
  · exact ⟨false, rfl, rfl⟩
  cases r1
  · exact ⟨false, rfl, rfl⟩
  by_cases h1 : 1 ≤ d
  · by_cases h2 : d ≤ e
    · by_cases h3 : e ≤ 50
      · cases r2
        · exact ⟨false, by simp [h1, h2, h3], by simp [h1, h2, h3]⟩
        · by_cases h4 : (p.length : Int) ≤ 10
          · exact ⟨okSpan s u, by simp only [if_true, if_pos h1, if_pos h2, if_pos h3, if_pos h4], by simp only [if_true, if_pos h1, if_pos h2, if_pos h3, if_pos h4]⟩
          · exact ⟨false, by simp only [if_true, if_pos h1, if_pos h2, if_pos h3, if_neg h4], by simp only [if_true, if_pos h1, if_pos h2, if_pos h3, if_neg h4]⟩
      · exact ⟨false, by simp only [if_true, if_pos h1, if_pos h2, if_neg h3], by simp only [if_true, if_pos h1, if_pos h2, if_neg h3]⟩
    · exact ⟨false, by simp only [if_true, if_pos h1, if_neg h2], by simp only [if_true, if_pos h1, if_neg h2]⟩
  · exact ⟨false, by simp only [if_true, if_neg h1], by simp only [if_true, if_neg h1]⟩
theorem main : laws_FnExactIsReport.Pure := by
  intro a b c d e p s u _ _ hc _ _ _ hp _ _ _
  refine ⟨c.length + p.length + 1, ?_⟩
  unfold laws_FnExactIsReport.f
  rw [szReport a b c d e p s u 1048576 (by omega) hc hp, Option.bind_some]
  by_cases h1 : 1048576 < (c.length : Int)
  · rw [if_pos h1, if_pos (by omega)]
  by_cases h2 : 1048576 - (c.length : Int) < (p.length : Int)
  · rw [if_neg h1, if_pos h2, if_pos (by omega)]
  rw [if_neg h1, if_neg h2, if_neg (by omega)]
  obtain ⟨r, e1, e2⟩ := reportsame (c.length + p.length + 1) a b c d e p s u (by omega) (by omega) (by omega) (by omega)
  simp only [toReport_eq (c.length + p.length + 1) a b c d e p s u (by omega) (by omega) (by omega) (by omega), eqReport_self (c.length + p.length + 1) a b c d e p s u (by omega) (by omega) (by omega) (by omega), e1, e2, Option.bind_some, bne_self_eq_false, Bool.false_eq_true, if_false, if_true]

end Go.Proofs.Ytoocbgjcigadfac.PureFnExactIsReport
namespace Go.Proofs.Ytoocbgjcigadfac.Pure
/-- The pure statement. -/
theorem FnExactIsReport : Go.Proofs.Ytoocbgjcigadfac.PureFnExactIsReport.laws_FnExactIsReport.Pure := Go.Proofs.Ytoocbgjcigadfac.PureFnExactIsReport.main
end Go.Proofs.Ytoocbgjcigadfac.Pure
