/- The printed law FnExactEqualInts, as a function of numbers and lists, answers true for all arguments that a call can be given; no conditions beyond the sizes that memory allows. -/
import Derived.Test.YtkgdofogalfhjacPFnExactEqualIntsx1
namespace Go.Proofs.Ytkgdofogalfhjac.PureFnExactEqualInts
open Go.RowKit Go.Proofs.Ytkgdofogalfhjac.PFnExactEqualInts Go.Proofs.YtkgdofogalfhjacW.PrintWords Go.Proofs.YtkgdofogalfhjacW.PrintLast Go.Proofs.YtkgdofogalfhjacW.PrintMore
set_option linter.unusedVariables false
set_option linter.unusedSimpArgs false

/-- The pure statement of laws_FnExactEqualInts, typed by lawfill.py as print.sh types it where it does. -/
def laws_FnExactEqualInts.Pure : Prop := ∀ (l0 : List Int) (l1 : List Int), l0.length ≤ maxLen → (∀ x ∈ l0, (Lit.int .i64 x).wf = true) → l1.length ≤ maxLen → (∀ x ∈ l1, (Lit.int .i64 x).wf = true) → ∃ k, laws_FnExactEqualInts.f k l0 l1 = some true

theorem rd_at (xs : List Int) (i : Nat) (h : i < xs.length) : rd xs (i : Int) = xs[i] := by
  unfold rd
  simp [List.getD_eq_getElem?_getD, h]
theorem succ_at (i n : Nat) (h : i < n) (hn : n ≤ 4611686018427387904) : wrap64 ((i : Int) + 1) = ((i + 1 : Nat) : Int) := by
  unfold wrap64
  omega
theorem laws_toIntS_loop (l : List Int) (hl : l.length ≤ 4611686018427387904) : ∀ (d k i : Nat) (out : List Int), i + d = l.length → d < k → out.length = l.length → (∀ j, j < i → out[j]? = l[j]?) → laws_toIntS.l0 k l out (i : Int) = some l := by
  intro d
  induction d with
  | zero =>
    intro k i out hi hk ho hj
    obtain ⟨k, rfl⟩ : ∃ m, k = m + 1 := ⟨k - 1, by omega⟩
    simp only [laws_toIntS.l0]
    rw [if_neg (by omega)]
    congr 1
    apply List.ext_getElem?
    intro j
    rcases Nat.lt_or_ge j i with h | h
    · exact hj j h
    · rw [List.getElem?_eq_none (by omega), List.getElem?_eq_none (by omega)]
  | succ d ih =>
    intro k i out hi hk ho hj
    obtain ⟨k, rfl⟩ : ∃ m, k = m + 1 := ⟨k - 1, by omega⟩
    simp only [laws_toIntS.l0]
    rw [if_pos (by omega), if_pos (by omega), if_pos (by omega), succ_at i l.length (by omega) hl, rd_at l i (by omega)]
    refine ih k (i + 1) _ (by omega) (by omega) (by simp [ho]) ?_
    intro j h
    rw [show ((i : Int)).toNat = i by omega, List.getElem?_set]
    by_cases e : i = j
    · subst e
      rw [if_pos rfl, if_pos (by omega), List.getElem?_eq_getElem (by omega)]
    · rw [if_neg e]
      exact hj j (by omega)
theorem laws_toIntS_eq (k : Nat) (l : List Int) (hk : l.length < k) (hl : l.length ≤ 1048576) : laws_toIntS.f k l = some l := by
  unfold laws_toIntS.f
  rw [if_pos (by omega), if_pos (by omega)]
  exact laws_toIntS_loop l (by omega) l.length k 0 _ (by omega) (by omega) (by simp) (by omega)
theorem laws_eqIntS_loop (l : List Int) (hl : l.length ≤ 4611686018427387904) : ∀ (d k i : Nat), i + d = l.length → d < k → laws_eqIntS.l0 k l l (i : Int) = some true := by
  intro d
  induction d with
  | zero =>
    intro k i hi hk
    obtain ⟨k, rfl⟩ : ∃ m, k = m + 1 := ⟨k - 1, by omega⟩
    simp only [laws_eqIntS.l0]
    rw [if_neg (by omega)]
  | succ d ih =>
    intro k i hi hk
    obtain ⟨k, rfl⟩ : ∃ m, k = m + 1 := ⟨k - 1, by omega⟩
    simp only [laws_eqIntS.l0]
    rw [if_pos (by omega), if_pos (by omega), if_pos (by omega), if_pos trivial, succ_at i l.length (by omega) hl]
    exact ih k (i + 1) (by omega) (by omega)
theorem laws_eqIntS_self (k : Nat) (l : List Int) (hk : l.length < k) (hl : l.length ≤ 4611686018427387904) : laws_eqIntS.f k l l = some true := by
  unfold laws_eqIntS.f
  rw [if_pos rfl]
  exact laws_eqIntS_loop l hl l.length k 0 (by omega) (by omega)
theorem loops (a b : List Int) : ∀ (k : Nat) (i : Int), slices_Equal_int_int.l0 k a b (a.length : Int) i = spec_EqualInts.l0 k a b i := by
  intro k
  induction k with
  | zero => intro i; rfl
  | succ k ih =>
    intro i
    simp only [slices_Equal_int_int.l0, spec_EqualInts.l0, ih]
    by_cases h : i < (a.length : Int)
    · simp only [if_pos h]
    · simp only [if_neg h]
theorem ends (a b : List Int) (hl : a.length = b.length) (hn : a.length ≤ 1048576) : ∀ (d k i : Nat), i + d = a.length → d < k → ∃ r, spec_EqualInts.l0 k a b (i : Int) = some r := by
  intro d
  induction d with
  | zero =>
    intro k i hi hk
    obtain ⟨k, rfl⟩ : ∃ m, k = m + 1 := ⟨k - 1, by omega⟩
    simp only [spec_EqualInts.l0]
    rw [if_neg (by omega)]
    exact ⟨_, rfl⟩
  | succ d ih =>
    intro k i hi hk
    obtain ⟨k, rfl⟩ : ∃ m, k = m + 1 := ⟨k - 1, by omega⟩
    simp only [spec_EqualInts.l0]
    rw [if_pos (by omega), if_pos (by omega), if_pos (by omega)]
    by_cases e : rd a (i : Int) = rd b (i : Int)
    · rw [if_pos e, succ_at i a.length (by omega) (by omega)]
      exact ih k (i + 1) (by omega) (by omega)
    · rw [if_neg e]
      exact ⟨_, rfl⟩
theorem main : laws_FnExactEqualInts.Pure := by
  intro a b _ _ _ _
  refine ⟨a.length + b.length + 1, ?_⟩
  unfold laws_FnExactEqualInts.f
  by_cases h1 : (a.length : Int) > 1048576
  · rw [if_pos h1]
  by_cases h2 : (b.length : Int) > 1048576
  · rw [if_neg h1, if_pos h2]
  rw [if_neg h1, if_neg h2]
  have ha := laws_toIntS_eq (a.length + b.length + 1) a (by omega) (by omega)
  have hb := laws_toIntS_eq (a.length + b.length + 1) b (by omega) (by omega)
  have ea := laws_eqIntS_self (a.length + b.length + 1) a (by omega) (by omega)
  have eb := laws_eqIntS_self (a.length + b.length + 1) b (by omega) (by omega)
  obtain ⟨r, hr⟩ : ∃ r, spec_EqualInts.f (a.length + b.length + 1) a b = some r := by
    unfold spec_EqualInts.f
    by_cases e : (a.length : Int) = (b.length : Int)
    · rw [if_pos e]
      exact ends a b (by omega) (by omega) a.length _ 0 (by omega) (by omega)
    · rw [if_neg e]
      exact ⟨_, rfl⟩
  have hi : impl_EqualInts.f (a.length + b.length + 1) a b = some r := by
    unfold impl_EqualInts.f slices_Equal_int_int.f
    unfold spec_EqualInts.f at hr
    rw [loops, hr, Option.bind_some]
  simp only [ha, hb, ea, eb, hr, hi, Option.bind_some, bne_self_eq_false, if_true, if_false, Bool.false_eq_true]

end Go.Proofs.Ytkgdofogalfhjac.PureFnExactEqualInts
namespace Go.Proofs.Ytkgdofogalfhjac.Pure
/-- The pure statement. -/
theorem FnExactEqualInts : Go.Proofs.Ytkgdofogalfhjac.PureFnExactEqualInts.laws_FnExactEqualInts.Pure := Go.Proofs.Ytkgdofogalfhjac.PureFnExactEqualInts.main
end Go.Proofs.Ytkgdofogalfhjac.Pure
