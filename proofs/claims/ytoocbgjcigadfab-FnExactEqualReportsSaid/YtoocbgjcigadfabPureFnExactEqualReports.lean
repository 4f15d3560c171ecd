/- The printed law FnExactEqualReports, as a function of numbers and lists, answers true for all arguments that a call can be given; no conditions beyond the sizes that memory allows. -/
import Derived.Test.YtoocbgjcigadfabCutFnExactEqualReports
namespace Go.Proofs.Ytoocbgjcigadfab.PureFnExactEqualReports
open Go.RowKit Go.Proofs.Ytoocbgjcigadfab.PFnExactEqualReports Go.Proofs.YtoocbgjcigadfabW.PrintWords Go.Proofs.YtoocbgjcigadfabW.PrintLast Go.Proofs.YtoocbgjcigadfabW.PrintMore
set_option linter.unusedVariables false
set_option linter.unusedSimpArgs false

/-- The pure statement of laws_FnExactEqualReports, typed by lawfill.py as print.sh types it where it does. -/
def laws_FnExactEqualReports.Pure : Prop := ∀ (a0_0 : Int) (a0_1 : Int) (l0_2 : List Int) (a0_3 : Int) (a0_4 : Int) (l0_5 : List Int) (a0_6 : Int) (a0_7 : Int) (a1_0 : Int) (a1_1 : Int) (l1_2 : List Int) (a1_3 : Int) (a1_4 : Int) (l1_5 : List Int) (a1_6 : Int) (a1_7 : Int), (Lit.int .i64 a0_0).wf = true → (Lit.int .i64 a0_1).wf = true → l0_2.length ≤ maxLen → (∀ x ∈ l0_2, (Lit.int .i64 x).wf = true) → (Lit.int .i64 a0_3).wf = true → (Lit.int .i64 a0_4).wf = true → l0_5.length ≤ maxLen → (∀ x ∈ l0_5, (Lit.int .i64 x).wf = true) → (Lit.int .i64 a0_6).wf = true → (Lit.int .i64 a0_7).wf = true → (Lit.int .i64 a1_0).wf = true → (Lit.int .i64 a1_1).wf = true → l1_2.length ≤ maxLen → (∀ x ∈ l1_2, (Lit.int .i64 x).wf = true) → (Lit.int .i64 a1_3).wf = true → (Lit.int .i64 a1_4).wf = true → l1_5.length ≤ maxLen → (∀ x ∈ l1_5, (Lit.int .i64 x).wf = true) → (Lit.int .i64 a1_6).wf = true → (Lit.int .i64 a1_7).wf = true → ∃ k, laws_FnExactEqualReports.f k a0_0 a0_1 l0_2 a0_3 a0_4 l0_5 a0_6 a0_7 a1_0 a1_1 l1_2 a1_3 a1_4 l1_5 a1_6 a1_7 = some true

theorem rd_at (xs : List Int) (i : Nat) (h : i < xs.length) : rd xs (i : Int) = xs[i] := by
  unfold rd
  simp [List.getD_eq_getElem?_getD, h]
theorem succ_at (i n : Nat) (h : i < n) (hn : n ≤ 4611686018427387904) : wrap64 ((i : Int) + 1) = ((i + 1 : Nat) : Int) := by
  unfold wrap64
  omega
theorem wrap_id (n : Int) (h0 : -9223372036854775808 ≤ n) (h1 : n ≤ 9223372036854775807) : wrap64 n = n := by
  unfold wrap64
  omega
theorem laws_toIntS_loop (l : List Int) (hl : l.length ≤ 4611686018427387904) : ∀ (d k i : Nat) (out : List Int), i + d = l.length → d < k → out.length = l.length → (∀ j, j < i → out[j]? = l[j]?) → laws_toIntS.l0 k l out (i : Int) = some l := by
  intro d
  induction d with
  | zero =>
    intro k i out hi hk ho hj
    obtain ⟨k, rfl⟩ : ∃ m, k = m + 1 := ⟨k - 1, by omega⟩
    simp only [laws_toIntS.l0]
    rw [if_neg (by omega)]
    congr 1
    apply List.ext_getElem?
    intro j
    rcases Nat.lt_or_ge j i with h | h
    · exact hj j h
    · rw [List.getElem?_eq_none (by omega), List.getElem?_eq_none (by omega)]
  | succ d ih =>
    intro k i out hi hk ho hj
    obtain ⟨k, rfl⟩ : ∃ m, k = m + 1 := ⟨k - 1, by omega⟩
    simp only [laws_toIntS.l0]
    rw [if_pos (by omega), if_pos (by omega), if_pos (by omega), succ_at i l.length (by omega) hl, rd_at l i (by omega)]
    refine ih k (i + 1) _ (by omega) (by omega) (by simp [ho]) ?_
    intro j h
    rw [show ((i : Int)).toNat = i by omega, List.getElem?_set]
    by_cases e : i = j
    · subst e
      rw [if_pos rfl, if_pos (by omega), List.getElem?_eq_getElem (by omega)]
    · rw [if_neg e]
      exact hj j (by omega)
theorem laws_toIntS_eq (k : Nat) (l : List Int) (hk : l.length < k) (hl : l.length ≤ 1048576) : laws_toIntS.f k l = some l := by
  unfold laws_toIntS.f
  rw [if_pos (by omega), if_pos (by omega)]
  exact laws_toIntS_loop l (by omega) l.length k 0 _ (by omega) (by omega) (by simp) (by omega)
theorem laws_eqIntS_loop (l : List Int) (hl : l.length ≤ 4611686018427387904) : ∀ (d k i : Nat), i + d = l.length → d < k → laws_eqIntS.l0 k l l (i : Int) = some true := by
  intro d
  induction d with
  | zero =>
    intro k i hi hk
    obtain ⟨k, rfl⟩ : ∃ m, k = m + 1 := ⟨k - 1, by omega⟩
    simp only [laws_eqIntS.l0]
    rw [if_neg (by omega)]
  | succ d ih =>
    intro k i hi hk
    obtain ⟨k, rfl⟩ : ∃ m, k = m + 1 := ⟨k - 1, by omega⟩
    simp only [laws_eqIntS.l0]
    rw [if_pos (by omega), if_pos (by omega), if_pos (by omega), if_pos trivial, succ_at i l.length (by omega) hl]
    exact ih k (i + 1) (by omega) (by omega)
theorem laws_eqIntS_self (k : Nat) (l : List Int) (hk : l.length < k) (hl : l.length ≤ 4611686018427387904) : laws_eqIntS.f k l l = some true := by
  unfold laws_eqIntS.f
  rw [if_pos rfl]
  exact laws_eqIntS_loop l hl l.length k 0 (by omega) (by omega)
theorem toReport_eq (k : Nat) (a b : Int) (c : List Int) (d e : Int) (p : List Int) (s u : Int) (hc : c.length ≤ 1048576) (hp : p.length ≤ 1048576) (hk : c.length < k) (hk2 : p.length < k) :
    laws_toReport.f k a b c d e p s u = some (a, b, c, d, e, p, s, u) := by
  unfold laws_toReport.f laws_toSpan.f
  simp only [laws_toIntS_eq k c hk hc, laws_toIntS_eq k p hk2 hp, Option.bind_some]
theorem eqReport_self (k : Nat) (a b : Int) (c : List Int) (d e : Int) (p : List Int) (s u : Int) (hc : c.length ≤ 1048576) (hp : p.length ≤ 1048576) (hk : c.length < k) (hk2 : p.length < k) :
    laws_eqReport.f k a b c d e p s u a b c d e p s u = some true := by
  unfold laws_eqReport.f laws_eqSpan.f
  simp only [laws_eqIntS_self k c hk (by omega), laws_eqIntS_self k p hk2 (by omega), Option.bind_some, if_true]
theorem szReport (a b : Int) (c : List Int) (d e : Int) (p : List Int) (s u n : Int) (hn : 0 ≤ n ∧ n ≤ 1048576) (hc : c.length ≤ maxLen) (hp : p.length ≤ maxLen) :
    laws_szReport.f a b c d e p s u n = some (if n < (c.length : Int) then -1 else if n - (c.length : Int) < (p.length : Int) then -1 else n - (c.length : Int) - (p.length : Int)) := by
  have hc' : c.length ≤ 9223372036854775807 := hc
  have hp' : p.length ≤ 9223372036854775807 := hp
  unfold laws_szReport.f laws_szIntS.f
  rw [wrap_id (n - (c.length : Int)) (by omega) (by omega)]
  by_cases h1 : n < (c.length : Int)
  · rw [if_pos h1, if_pos (show n - (c.length : Int) < 0 by omega), Option.bind_some, if_pos (by omega)]
  · rw [if_neg h1, if_neg (show ¬ n - (c.length : Int) < 0 by omega), Option.bind_some, if_neg (by omega), wrap_id (n - (c.length : Int) - (p.length : Int)) (by omega) (by omega)]
    by_cases h2 : n - (c.length : Int) < (p.length : Int)
    · rw [if_pos h2, if_pos (show n - (c.length : Int) - (p.length : Int) < 0 by omega), Option.bind_some, if_pos (by omega)]
    · rw [if_neg h2, if_neg (show ¬ n - (c.length : Int) - (p.length : Int) < 0 by omega), Option.bind_some, if_neg (by omega)]
theorem loops (a b : List Int) : ∀ (k : Nat) (i : Int), slices_Equal_int_int.l0 k a b (a.length : Int) i = spec_EqualInts.l0 k a b i := by
  intro k
  induction k with
  | zero => intro i; rfl
  | succ k ih =>
    intro i
    simp only [slices_Equal_int_int.l0, spec_EqualInts.l0, ih]
    by_cases h : i < (a.length : Int)
    · simp only [if_pos h]
    · simp only [if_neg h]
theorem ends (a b : List Int) (hl : a.length = b.length) (hn : a.length ≤ 1048576) : ∀ (d k i : Nat), i + d = a.length → d < k → ∃ r, spec_EqualInts.l0 k a b (i : Int) = some r := by
  intro d
  induction d with
  | zero =>
    intro k i hi hk
    obtain ⟨k, rfl⟩ : ∃ m, k = m + 1 := ⟨k - 1, by omega⟩
    simp only [spec_EqualInts.l0]
    rw [if_neg (by omega)]
    exact ⟨_, rfl⟩
  | succ d ih =>
    intro k i hi hk
    obtain ⟨k, rfl⟩ : ∃ m, k = m + 1 := ⟨k - 1, by omega⟩
    simp only [spec_EqualInts.l0]
    rw [if_pos (by omega), if_pos (by omega), if_pos (by omega)]
    by_cases e : rd a (i : Int) = rd b (i : Int)
    · rw [if_pos e, succ_at i a.length (by omega) (by omega)]
      exact ih k (i + 1) (by omega) (by omega)
    · rw [if_neg e]
      exact ⟨_, rfl⟩
theorem eqi (k : Nat) (a b : List Int) (hn : a.length ≤ 1048576) (hk : a.length < k) : ∃ r, spec_EqualInts.f k a b = some r ∧ slices_Equal_int_int.f k a b = some r := by
  unfold spec_EqualInts.f slices_Equal_int_int.f
  by_cases e : (a.length : Int) = (b.length : Int)
  · rw [if_pos e, if_pos e, loops]
    obtain ⟨r, hr⟩ := ends a b (by omega) hn a.length k 0 (by omega) hk
    exact ⟨r, hr, hr⟩
  · rw [if_neg e, if_neg e]
    exact ⟨_, rfl, rfl⟩
theorem reps (k : Nat) (a b : Int) (c : List Int) (d e : Int) (p : List Int) (s u a' b' : Int) (c' : List Int) (d' e' : Int) (p' : List Int) (s' u' : Int) (hc : c.length ≤ 1048576) (hp : p.length ≤ 1048576) (hk : c.length < k) (hk2 : p.length < k) :
    ∃ r, spec_EqualReports.f k a b c d e p s u a' b' c' d' e' p' s' u' = some r ∧ impl_EqualReports.f k a b c d e p s u a' b' c' d' e' p' s' u' = some r := by
  obtain ⟨r1, e1, e2⟩ := eqi k c c' hc hk
  obtain ⟨r2, e3, e4⟩ := eqi k p p' hp hk2
  unfold spec_EqualReports.f impl_EqualReports.f
  simp only [e1, e2, e3, e4, Option.bind_some]
  generalize (s == s' && (u == u')) = z
  by_cases h1 : a = a' <;> by_cases h2 : b = b' <;> by_cases h3 : d = d' <;> by_cases h4 : e = e' <;> simp only [if_pos, if_neg, h1, h2, h3, h4, if_true, if_false, not_false_eq_true] <;> cases z <;> cases r1 <;> cases r2 <;> simp
theorem main : laws_FnExactEqualReports.Pure := by
  intro a b c d e p s u a' b' c' d' e' p' s' u' _ _ hc _ _ _ hp _ _ _ _ _ hc' _ _ _ hp' _ _ _
  refine ⟨c.length + p.length + c'.length + p'.length + 1, ?_⟩
  unfold laws_FnExactEqualReports.f
  rw [szReport a b c d e p s u 1048576 (by omega) hc hp, Option.bind_some]
  by_cases h1 : 1048576 < (c.length : Int)
  · rw [if_pos h1, if_pos (by omega)]
  by_cases h2 : 1048576 - (c.length : Int) < (p.length : Int)
  · rw [if_neg h1, if_pos h2, if_pos (by omega)]
  rw [if_neg h1, if_neg h2, if_neg (by omega), szReport a' b' c' d' e' p' s' u' _ (by omega) hc' hp', Option.bind_some]
  generalize hn : 1048576 - (c.length : Int) - (p.length : Int) = n
  by_cases h3 : n < (c'.length : Int)
  · rw [if_pos h3, if_pos (by omega)]
  by_cases h4 : n - (c'.length : Int) < (p'.length : Int)
  · rw [if_neg h3, if_pos h4, if_pos (by omega)]
  rw [if_neg h3, if_neg h4, if_neg (by omega)]
  generalize hK : c.length + p.length + c'.length + p'.length + 1 = K
  obtain ⟨r, e1, e2⟩ := reps K a b c d e p s u a' b' c' d' e' p' s' u' (by omega) (by omega) (by omega) (by omega)
  simp only [toReport_eq K a b c d e p s u (by omega) (by omega) (by omega) (by omega), eqReport_self K a b c d e p s u (by omega) (by omega) (by omega) (by omega), toReport_eq K a' b' c' d' e' p' s' u' (by omega) (by omega) (by omega) (by omega), eqReport_self K a' b' c' d' e' p' s' u' (by omega) (by omega) (by omega) (by omega), e1, e2, Option.bind_some, bne_self_eq_false, Bool.false_eq_true, if_false, if_true]

end Go.Proofs.Ytoocbgjcigadfab.PureFnExactEqualReports
namespace Go.Proofs.Ytoocbgjcigadfab.Pure
/-- The pure statement. -/
theorem FnExactEqualReports : Go.Proofs.Ytoocbgjcigadfab.PureFnExactEqualReports.laws_FnExactEqualReports.Pure := Go.Proofs.Ytoocbgjcigadfab.PureFnExactEqualReports.main
end Go.Proofs.Ytoocbgjcigadfab.Pure
