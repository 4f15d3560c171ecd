/- The printed law FnExactAreReports, as a function of numbers and lists, answers true for all arguments that a call can be given; no conditions beyond the sizes that memory allows. -/
import Derived.Test.YtoocbgjcigadfadWkFnExactAreReportsx6
namespace Go.Proofs.Ytoocbgjcigadfad.PureFnExactAreReports
open Go.RowKit Go.Proofs.Ytoocbgjcigadfad.PFnExactAreReports Go.Proofs.YtoocbgjcigadfadW.PrintWords Go.Proofs.YtoocbgjcigadfadW.PrintLast Go.Proofs.YtoocbgjcigadfadW.PrintMore
set_option linter.unusedVariables false
set_option linter.unusedSimpArgs false

/-- The pure statement of laws_FnExactAreReports, typed by lawfill.py as print.sh types it where it does. -/
def laws_FnExactAreReports.Pure : Prop := ∀ (l0 : List S73), l0.length ≤ maxLen → (∀ x ∈ l0, x.f2.length ≤ maxLen ∧ x.f5.length ≤ maxLen) → ∃ k, laws_FnExactAreReports.f k l0 = some true

def inr (a b c : Int) : Bool := decide (b ≤ a) && decide (a ≤ c)
theorem inr_iff (a b c : Int) : inr a b c = true ↔ b ≤ a ∧ a ≤ c := by unfold inr; simp
theorem l1In_eq (a b c : Int) : spec_l1In.f a b c = some (inr a b c) := by
  unfold spec_l1In.f inr
  by_cases h : b ≤ a <;> simp [h]
theorem inRange_eq (a b c : Int) : impl_InRange.f a b c = some (inr a b c) := by
  unfold impl_InRange.f inr
  by_cases h : b ≤ a <;> simp [h]
theorem rd_at (xs : List Int) (i : Nat) (h : i < xs.length) : rd xs (i : Int) = xs[i] := by
  unfold rd
  simp [List.getD_eq_getElem?_getD, h]
theorem succ_at (i n : Nat) (h : i < n) (hn : n ≤ 4611686018427387904) : wrap64 ((i : Int) + 1) = ((i + 1 : Nat) : Int) := by
  unfold wrap64
  omega
theorem wrap_id (n : Int) (h0 : -9223372036854775808 ≤ n) (h1 : n ≤ 9223372036854775807) : wrap64 n = n := by
  unfold wrap64
  omega
def okSpan (a b : Int) : Bool := inr a 0 100000 && inr b 0 100000 && decide (a ≤ b)
theorem sIsSpan (a b : Int) : spec_IsSpan.f a b = some (okSpan a b) := by
  unfold spec_IsSpan.f okSpan
  simp only [l1In_eq, Option.bind_some]
  cases inr a 0 100000 <;> cases inr b 0 100000 <;> simp
theorem iIsSpan (a b : Int) : impl_IsSpan.f a b = some (okSpan a b) := by
  unfold impl_IsSpan.f okSpan
  simp only [inRange_eq, Option.bind_some]
  cases inr a 0 100000 <;> cases inr b 0 100000 <;> simp
theorem laws_toIntS_loop (l : List Int) (hl : l.length ≤ 4611686018427387904) : ∀ (d k i : Nat) (out : List Int), i + d = l.length → d < k → out.length = l.length → (∀ j, j < i → out[j]? = l[j]?) → laws_toIntS.l0 k l out (i : Int) = some l := by
  intro d
  induction d with
  | zero =>
    intro k i out hi hk ho hj
    obtain ⟨k, rfl⟩ : ∃ m, k = m + 1 := ⟨k - 1, by omega⟩
    simp only [laws_toIntS.l0]
    rw [if_neg (by omega)]
    congr 1
    apply List.ext_getElem?
    intro j
    rcases Nat.lt_or_ge j i with h | h
    · exact hj j h
    · rw [List.getElem?_eq_none (by omega), List.getElem?_eq_none (by omega)]
  | succ d ih =>
    intro k i out hi hk ho hj
    obtain ⟨k, rfl⟩ : ∃ m, k = m + 1 := ⟨k - 1, by omega⟩
    simp only [laws_toIntS.l0]
    rw [if_pos (by omega), if_pos (by omega), if_pos (by omega), succ_at i l.length (by omega) hl, rd_at l i (by omega)]
    refine ih k (i + 1) _ (by omega) (by omega) (by simp [ho]) ?_
    intro j h
    rw [show ((i : Int)).toNat = i by omega, List.getElem?_set]
    by_cases e : i = j
    · subst e
      rw [if_pos rfl, if_pos (by omega), List.getElem?_eq_getElem (by omega)]
    · rw [if_neg e]
      exact hj j (by omega)
theorem laws_toIntS_eq (k : Nat) (l : List Int) (hk : l.length < k) (hl : l.length ≤ 1048576) : laws_toIntS.f k l = some l := by
  unfold laws_toIntS.f
  rw [if_pos (by omega), if_pos (by omega)]
  exact laws_toIntS_loop l (by omega) l.length k 0 _ (by omega) (by omega) (by simp) (by omega)
theorem laws_eqIntS_loop (l : List Int) (hl : l.length ≤ 4611686018427387904) : ∀ (d k i : Nat), i + d = l.length → d < k → laws_eqIntS.l0 k l l (i : Int) = some true := by
  intro d
  induction d with
  | zero =>
    intro k i hi hk
    obtain ⟨k, rfl⟩ : ∃ m, k = m + 1 := ⟨k - 1, by omega⟩
    simp only [laws_eqIntS.l0]
    rw [if_neg (by omega)]
  | succ d ih =>
    intro k i hi hk
    obtain ⟨k, rfl⟩ : ∃ m, k = m + 1 := ⟨k - 1, by omega⟩
    simp only [laws_eqIntS.l0]
    rw [if_pos (by omega), if_pos (by omega), if_pos (by omega), if_pos trivial, succ_at i l.length (by omega) hl]
    exact ih k (i + 1) (by omega) (by omega)
theorem laws_eqIntS_self (k : Nat) (l : List Int) (hk : l.length < k) (hl : l.length ≤ 4611686018427387904) : laws_eqIntS.f k l l = some true := by
  unfold laws_eqIntS.f
  rw [if_pos rfl]
  exact laws_eqIntS_loop l hl l.length k 0 (by omega) (by omega)
theorem toReport_eq (k : Nat) (a b : Int) (c : List Int) (d e : Int) (p : List Int) (s u : Int) (hc : c.length ≤ 1048576) (hp : p.length ≤ 1048576) (hk : c.length < k) (hk2 : p.length < k) :
    laws_toReport.f k a b c d e p s u = some (a, b, c, d, e, p, s, u) := by
  unfold laws_toReport.f laws_toSpan.f
  simp only [laws_toIntS_eq k c hk hc, laws_toIntS_eq k p hk2 hp, Option.bind_some]
theorem eqReport_self (k : Nat) (a b : Int) (c : List Int) (d e : Int) (p : List Int) (s u : Int) (hc : c.length ≤ 1048576) (hp : p.length ≤ 1048576) (hk : c.length < k) (hk2 : p.length < k) :
    laws_eqReport.f k a b c d e p s u a b c d e p s u = some true := by
  unfold laws_eqReport.f laws_eqSpan.f
  simp only [laws_eqIntS_self k c hk (by omega), laws_eqIntS_self k p hk2 (by omega), Option.bind_some, if_true]
theorem szReport (a b : Int) (c : List Int) (d e : Int) (p : List Int) (s u n : Int) (hn : 0 ≤ n ∧ n ≤ 1048576) (hc : c.length ≤ maxLen) (hp : p.length ≤ maxLen) :
    laws_szReport.f a b c d e p s u n = some (if n < (c.length : Int) then -1 else if n - (c.length : Int) < (p.length : Int) then -1 else n - (c.length : Int) - (p.length : Int)) := by
  have hc' : c.length ≤ 9223372036854775807 := hc
  have hp' : p.length ≤ 9223372036854775807 := hp
  unfold laws_szReport.f laws_szIntS.f
  rw [wrap_id (n - (c.length : Int)) (by omega) (by omega)]
  by_cases h1 : n < (c.length : Int)
  · rw [if_pos h1, if_pos (show n - (c.length : Int) < 0 by omega), Option.bind_some, if_pos (by omega)]
  · rw [if_neg h1, if_neg (show ¬ n - (c.length : Int) < 0 by omega), Option.bind_some, if_neg (by omega), wrap_id (n - (c.length : Int) - (p.length : Int)) (by omega) (by omega)]
    by_cases h2 : n - (c.length : Int) < (p.length : Int)
    · rw [if_pos h2, if_pos (show n - (c.length : Int) - (p.length : Int) < 0 by omega), Option.bind_some, if_pos (by omega)]
    · rw [if_neg h2, if_neg (show ¬ n - (c.length : Int) - (p.length : Int) < 0 by omega), Option.bind_some, if_neg (by omega)]
theorem ascboth (l : List Int) (lo hi : Int) (hl : l.length ≤ 1048576) : ∀ (d k i : Nat), i + d = l.length → d < k → ∃ r, spec_l7Ids.l0 k l lo hi (i : Int) = some r ∧ impl_isAscending.l0 k l lo hi l (l.length : Int) (i : Int) = some r := by
  intro d
  induction d with
  | zero =>
    intro k i hi' hk
    obtain ⟨k, rfl⟩ : ∃ m, k = m + 1 := ⟨k - 1, by omega⟩
    have h1 : ¬ (i : Int) < (l.length : Int) := by omega
    simp only [spec_l7Ids.l0, impl_isAscending.l0, if_neg h1]
    exact ⟨true, rfl, rfl⟩
  | succ d ih =>
    intro k i hi' hk
    obtain ⟨k, rfl⟩ : ∃ m, k = m + 1 := ⟨k - 1, by omega⟩
    obtain ⟨r, h3, h4⟩ := ih k (i + 1) (by omega) (by omega)
    have h1 : (i : Int) < (l.length : Int) := by omega
    have h2 : (0 : Int) ≤ (i : Int) := by omega
    simp only [spec_l7Ids.l0, impl_isAscending.l0, l1In_eq, inRange_eq, Option.bind_some, if_pos h1, if_pos h2, succ_at i l.length (by omega) (by omega), h3, h4]
    cases inr (rd l (i : Int)) lo hi
    · exact ⟨false, rfl, rfl⟩
    · simp only [if_true]
      by_cases hp : (i : Int) > 0
      · have h6 : (0 : Int) ≤ (i : Int) - 1 := by omega
        have h7 : (i : Int) - 1 < (l.length : Int) := by omega
        simp only [if_pos hp, wrap_id ((i : Int) - 1) (by omega) (by omega), if_pos h6, if_pos h7, ge_iff_le]
        by_cases hq : rd l (i : Int) ≤ rd l ((i : Int) - 1)
        · simp only [if_pos hq]
          exact ⟨false, rfl, rfl⟩
        · simp only [if_neg hq]
          exact ⟨r, rfl, rfl⟩
      · simp only [if_neg hp]
        exact ⟨r, rfl, rfl⟩
theorem ascsame (k : Nat) (l : List Int) (lo hi : Int) (hl : l.length ≤ 1048576) (hk : l.length < k) : ∃ r, spec_l7Ids.f k l lo hi = some r ∧ impl_isAscending.f k l lo hi = some r :=
  ascboth l lo hi hl l.length k 0 (by omega) hk
theorem reportsame (k : Nat) (a b : Int) (c : List Int) (d e : Int) (p : List Int) (s u : Int) (hc : c.length ≤ 1048576) (hp : p.length ≤ 1048576) (hk : c.length < k) (hk2 : p.length < k) :
    ∃ r, spec_IsReport.f k a b c d e p s u = some r ∧ impl_IsReport.f k a b c d e p s u = some r := by
  obtain ⟨r1, e1, e2⟩ := ascsame k c 0 7 hc hk
  obtain ⟨r2, e3, e4⟩ := ascsame k p 1 30 hp hk2
  unfold spec_IsReport.f impl_IsReport.f
  simp only [l1In_eq, inRange_eq, sIsSpan, iIsSpan, e1, e2, e3, e4, Option.bind_some, ge_iff_le]
  cases inr a 1 999
  · exact ⟨false, rfl, rfl⟩
  cases inr b 1 8
  · exact ⟨false, rfl, rfl⟩
  cases r1
  · exact ⟨false, rfl, rfl⟩
  by_cases h1 : 1 ≤ d
  · by_cases h2 : d ≤ e
    · by_cases h3 : e ≤ 50
      · cases r2
        · exact ⟨false, by simp [h1, h2, h3], by simp [h1, h2, h3]⟩
        · by_cases h4 : (p.length : Int) ≤ 10
          · exact ⟨okSpan s u, by simp only [if_true, if_pos h1, if_pos h2, if_pos h3, if_pos h4], by simp only [if_true, if_pos h1, if_pos h2, if_pos h3, if_pos h4]⟩
          · exact ⟨false, by simp only [if_true, if_pos h1, if_pos h2, if_pos h3, if_neg h4], by simp only [if_true, if_pos h1, if_pos h2, if_pos h3, if_neg h4]⟩
      · exact ⟨false, by simp only [if_true, if_pos h1, if_pos h2, if_neg h3], by simp only [if_true, if_pos h1, if_pos h2, if_neg h3]⟩
    · exact ⟨false, by simp only [if_true, if_pos h1, if_neg h2], by simp only [if_true, if_pos h1, if_neg h2]⟩
  · exact ⟨false, by simp only [if_true, if_neg h1], by simp only [if_true, if_neg h1]⟩
theorem in_at (xs : List S73) (i : Nat) (h : i < xs.length) : rd_T73 xs (i : Int) = xs[i] := by
  unfold rd_T73
  simp [List.getD_eq_getElem?_getD, h]
theorem out_at (xs : List S76) (i : Nat) (h : i < xs.length) : rd_T76 xs (i : Int) = xs[i] := by
  unfold rd_T76
  simp [List.getD_eq_getElem?_getD, h]
def small (x : S76) : Prop := x.f2.length ≤ 1048576 ∧ x.f5.length ≤ 1048576
def conv (x : S73) : S76 := ⟨x.f0, x.f1, x.f2, x.f3, x.f4, x.f5, ⟨x.f6.f0, x.f6.f1⟩⟩
theorem sz_loop (l : List S73) (hl : l.length ≤ 1048576) (hm : ∀ x ∈ l, x.f2.length ≤ maxLen ∧ x.f5.length ≤ maxLen) : ∀ (d k i : Nat) (n : Int), i + d = l.length → d < k → 0 ≤ n ∧ n ≤ 1048576 → ∃ r, laws_szReportS.l0 k l n (i : Int) = some r ∧ (0 ≤ r → ∀ x ∈ l.drop i, small (conv x)) := by
  intro d
  induction d with
  | zero =>
    intro k i n hi hk hn
    obtain ⟨k, rfl⟩ : ∃ m, k = m + 1 := ⟨k - 1, by omega⟩
    simp only [laws_szReportS.l0]
    rw [if_neg (by omega)]
    refine ⟨n, rfl, fun _ x hx => ?_⟩
    rw [List.drop_of_length_le (by omega)] at hx
    simp at hx
  | succ d ih =>
    intro k i n hi hk hn
    obtain ⟨k, rfl⟩ : ∃ m, k = m + 1 := ⟨k - 1, by omega⟩
    have hil : i < l.length := by omega
    obtain ⟨m1, m2⟩ := hm _ (List.getElem_mem hil)
    simp only [laws_szReportS.l0]
    rw [if_pos (by omega), if_pos (by omega), in_at l i hil, szReport _ _ _ _ _ _ _ _ n hn m1 m2, Option.bind_some]
    by_cases h1 : n < ((l[i]).f2.length : Int)
    · rw [if_pos h1, if_pos (by omega)]
      exact ⟨-1, rfl, fun h => by omega⟩
    by_cases h2 : n - ((l[i]).f2.length : Int) < ((l[i]).f5.length : Int)
    · rw [if_neg h1, if_pos h2, if_pos (by omega)]
      exact ⟨-1, rfl, fun h => by omega⟩
    rw [if_neg h1, if_neg h2, if_neg (by omega), succ_at i l.length hil (by omega)]
    obtain ⟨r, e, hr⟩ := ih k (i + 1) (n - ((l[i]).f2.length : Int) - ((l[i]).f5.length : Int)) (by omega) (by omega) (by omega)
    refine ⟨r, e, fun h x hx => ?_⟩
    rw [List.drop_eq_getElem_cons hil] at hx
    rcases List.mem_cons.1 hx with rfl | hx
    · exact ⟨show (l[i]).f2.length ≤ 1048576 by omega, show (l[i]).f5.length ≤ 1048576 by omega⟩
    · exact hr h x hx
theorem to_loop (l : List S73) (hl : l.length ≤ 1048576) (hs : ∀ x ∈ l, small (conv x)) : ∀ (d k i : Nat) (out : List S76), i + d = l.length → d + 1048576 < k → out.length = l.length → (∀ j, j < i → out[j]? = (l[j]?).map conv) → laws_toReportS.l0 k l out (i : Int) = some (l.map conv) := by
  intro d
  induction d with
  | zero =>
    intro k i out hi hk ho hj
    obtain ⟨k, rfl⟩ : ∃ m, k = m + 1 := ⟨k - 1, by omega⟩
    simp only [laws_toReportS.l0]
    rw [if_neg (by omega)]
    congr 1
    apply List.ext_getElem?
    intro j
    rw [List.getElem?_map]
    rcases Nat.lt_or_ge j i with h | h
    · exact hj j h
    · rw [List.getElem?_eq_none (by omega), List.getElem?_eq_none (by omega)]
      rfl
  | succ d ih =>
    intro k i out hi hk ho hj
    obtain ⟨k, rfl⟩ : ∃ m, k = m + 1 := ⟨k - 1, by omega⟩
    have hil : i < l.length := by omega
    obtain ⟨s1, s2⟩ := hs _ (List.getElem_mem hil)
    have s1' : (l[i]).f2.length ≤ 1048576 := s1
    have s2' : (l[i]).f5.length ≤ 1048576 := s2
    simp only [laws_toReportS.l0]
    rw [if_pos (by omega), if_pos (by omega), in_at l i hil, toReport_eq k _ _ _ _ _ _ _ _ s1' s2' (by omega) (by omega), Option.bind_some, if_pos (by omega), succ_at i l.length hil (by omega), show ((i : Int)).toNat = i by omega]
    refine ih k (i + 1) (out.set i (conv l[i])) (by omega) (by omega) (by simp [ho]) ?_
    intro j h
    rw [List.getElem?_set]
    by_cases e : i = j
    · subst e
      rw [if_pos rfl, if_pos (by omega), List.getElem?_eq_getElem (by omega)]
      rfl
    · rw [if_neg e]
      exact hj j (by omega)
theorem eq_loop (l : List S76) (hl : l.length ≤ 1048576) (hs : ∀ x ∈ l, small x) : ∀ (d k i : Nat), i + d = l.length → d + 1048576 < k → laws_eqReportS.l0 k l l (i : Int) = some true := by
  intro d
  induction d with
  | zero =>
    intro k i hi hk
    obtain ⟨k, rfl⟩ : ∃ m, k = m + 1 := ⟨k - 1, by omega⟩
    simp only [laws_eqReportS.l0]
    rw [if_neg (by omega)]
  | succ d ih =>
    intro k i hi hk
    obtain ⟨k, rfl⟩ : ∃ m, k = m + 1 := ⟨k - 1, by omega⟩
    have hil : i < l.length := by omega
    obtain ⟨s1, s2⟩ := hs _ (List.getElem_mem hil)
    simp only [laws_eqReportS.l0]
    rw [if_pos (by omega), if_pos (by omega), if_pos (by omega), out_at l i hil, eqReport_self k _ _ _ _ _ _ _ _ s1 s2 (by omega) (by omega), Option.bind_some, if_pos rfl, succ_at i l.length hil (by omega)]
    exact ih k (i + 1) (by omega) (by omega)
theorem are_both (l : List S76) (hl : l.length ≤ 1048576) (hs : ∀ x ∈ l, small x) : ∀ (d k i : Nat), i + d = l.length → d + 1048576 < k → ∃ r, spec_AreReports.l0 k l (i : Int) = some (r && decide ((l.length : Int) ≤ 20)) ∧ impl_AreReports.l0 k l l (l.length : Int) (i : Int) = some r := by
  intro d
  induction d with
  | zero =>
    intro k i hi hk
    obtain ⟨k, rfl⟩ : ∃ m, k = m + 1 := ⟨k - 1, by omega⟩
    have h1 : ¬ (i : Int) < (l.length : Int) := by omega
    simp only [spec_AreReports.l0, impl_AreReports.l0, if_neg h1]
    exact ⟨true, by simp, rfl⟩
  | succ d ih =>
    intro k i hi hk
    obtain ⟨k, rfl⟩ : ∃ m, k = m + 1 := ⟨k - 1, by omega⟩
    obtain ⟨r, h3, h4⟩ := ih k (i + 1) (by omega) (by omega)
    have hil : i < l.length := by omega
    obtain ⟨s1, s2⟩ := hs _ (List.getElem_mem hil)
    have h1 : (i : Int) < (l.length : Int) := by omega
    have h2 : (0 : Int) ≤ (i : Int) := by omega
    have e0 : rd_T76 l (i : Int) = l[i] := out_at l i hil
    obtain ⟨b, e1, e2⟩ := reportsame k (l[i]).f0 (l[i]).f1 (l[i]).f2 (l[i]).f3 (l[i]).f4 (l[i]).f5 (l[i]).f6.f0 (l[i]).f6.f1 s1 s2 (by omega) (by omega)
    simp only [spec_AreReports.l0, impl_AreReports.l0, e0, e1, e2, Option.bind_some, if_pos h1, if_pos h2, succ_at i l.length hil (by omega), h3, h4]
    cases b
    · exact ⟨false, by simp, by simp⟩
    · simp only [if_true]
      by_cases hp : (i : Int) > 0
      · have h6 : (0 : Int) ≤ (i : Int) - 1 := by omega
        have h7 : (i : Int) - 1 < (l.length : Int) := by omega
        simp only [if_pos hp, wrap_id ((i : Int) - 1) (by omega) (by omega), if_pos h6, if_pos h7, ge_iff_le]
        by_cases hq : (l[i]).f0 ≤ (rd_T76 l ((i : Int) - 1)).f0
        · simp only [if_pos hq]
          exact ⟨false, by simp, rfl⟩
        · simp only [if_neg hq]
          exact ⟨r, rfl, rfl⟩
      · simp only [if_neg hp]
        exact ⟨r, rfl, rfl⟩
theorem are_same (k : Nat) (l : List S76) (hl : l.length ≤ 1048576) (hs : ∀ x ∈ l, small x) (hk : l.length + 1048576 < k) : ∃ r, spec_AreReports.f k l = some r ∧ impl_AreReports.f k l = some r := by
  obtain ⟨r, h1, h2⟩ := are_both l hl hs l.length k 0 (by omega) hk
  unfold spec_AreReports.f impl_AreReports.f
  by_cases h : (l.length : Int) > 20
  · rw [if_pos h]
    refine ⟨false, ?_, rfl⟩
    rw [show (decide ((l.length : Int) ≤ 20)) = false by simp; omega, Bool.and_false] at h1
    exact h1
  · rw [if_neg h]
    refine ⟨r, ?_, h2⟩
    rw [show (decide ((l.length : Int) ≤ 20)) = true by simp; omega, Bool.and_true] at h1
    exact h1
theorem main : laws_FnExactAreReports.Pure := by
  intro l hm hi
  obtain ⟨K, hK⟩ : ∃ K, K = l.length + 1048580 := ⟨_, rfl⟩
  refine ⟨K, ?_⟩
  unfold laws_FnExactAreReports.f laws_szReportS.f
  have hm' : l.length ≤ 9223372036854775807 := hm
  rw [wrap_id (1048576 - (l.length : Int)) (by omega) (by omega)]
  by_cases h1 : 1048576 - (l.length : Int) < 0
  · rw [if_pos h1, Option.bind_some, if_pos (by omega)]
  rw [if_neg h1]
  obtain ⟨r0, e0, hs⟩ := sz_loop l (by omega) hi l.length K 0 (1048576 - (l.length : Int)) (by omega) (by omega) (by omega)
  rw [show ((0 : Nat) : Int) = 0 from rfl] at e0
  rw [e0, Option.bind_some]
  by_cases h2 : r0 < 0
  · rw [if_pos h2]
  rw [if_neg h2]
  have hs' := hs (by omega)
  rw [List.drop_zero] at hs'
  have e1 : laws_toReportS.f K l = some (l.map conv) := by
    unfold laws_toReportS.f
    rw [if_pos (by omega), if_pos (by omega)]
    exact to_loop l (by omega) hs' l.length K 0 _ (by omega) (by omega) (by simp) (by omega)
  have hlen : (l.map conv).length = l.length := by simp
  have hsm : ∀ x ∈ l.map conv, small x := by
    intro x hx
    obtain ⟨y, hy, rfl⟩ := List.mem_map.1 hx
    exact hs' y hy
  generalize l.map conv = x at e1 hlen hsm
  obtain ⟨r, e2, e3⟩ := are_same K x (by omega) hsm (by omega)
  have e4 : laws_eqReportS.f K x x = some true := by
    unfold laws_eqReportS.f
    rw [if_pos rfl]
    exact eq_loop x (by omega) hsm x.length K 0 (by omega) (by omega)
  simp only [e1, e2, e3, e4, Option.bind_some, bne_self_eq_false, Bool.false_eq_true, if_false, if_true]

end Go.Proofs.Ytoocbgjcigadfad.PureFnExactAreReports
namespace Go.Proofs.Ytoocbgjcigadfad.Pure
/-- The pure statement. -/
theorem FnExactAreReports : Go.Proofs.Ytoocbgjcigadfad.PureFnExactAreReports.laws_FnExactAreReports.Pure := Go.Proofs.Ytoocbgjcigadfad.PureFnExactAreReports.main
end Go.Proofs.Ytoocbgjcigadfad.Pure
