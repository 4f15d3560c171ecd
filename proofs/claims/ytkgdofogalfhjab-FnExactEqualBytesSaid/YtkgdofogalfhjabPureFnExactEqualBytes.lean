/- The printed law FnExactEqualBytes, as a function of numbers and lists, answers true for all arguments that a call can be given; no conditions beyond the sizes that memory allows. -/
import Derived.Test.YtkgdofogalfhjabPFnExactEqualBytesx1
namespace Go.Proofs.Ytkgdofogalfhjab.PureFnExactEqualBytes
open Go.RowKit Go.Proofs.Ytkgdofogalfhjab.PFnExactEqualBytes Go.Proofs.YtkgdofogalfhjabW.PrintWords Go.Proofs.YtkgdofogalfhjabW.PrintLast Go.Proofs.YtkgdofogalfhjabW.PrintMore
set_option linter.unusedVariables false
set_option linter.unusedSimpArgs false

/-- The pure statement of laws_FnExactEqualBytes, typed by lawfill.py as print.sh types it where it does. -/
def laws_FnExactEqualBytes.Pure : Prop := ∀ (l0 : List Int) (l1 : List Int), l0.length ≤ maxLen → (∀ x ∈ l0, (Lit.int .u8 x).wf = true) → l1.length ≤ maxLen → (∀ x ∈ l1, (Lit.int .u8 x).wf = true) → ∃ k, laws_FnExactEqualBytes.f k l0 l1 = some true

theorem rd_at (xs : List Int) (i : Nat) (h : i < xs.length) : rd xs (i : Int) = xs[i] := by
  unfold rd
  simp [List.getD_eq_getElem?_getD, h]
theorem succ_at (i n : Nat) (h : i < n) (hn : n ≤ 4611686018427387904) : wrap64 ((i : Int) + 1) = ((i + 1 : Nat) : Int) := by
  unfold wrap64
  omega
theorem laws_toByteS_loop (l : List Int) (hl : l.length ≤ 4611686018427387904) : ∀ (d k i : Nat) (out : List Int), i + d = l.length → d < k → out.length = l.length → (∀ j, j < i → out[j]? = l[j]?) → laws_toByteS.l0 k l out (i : Int) = some l := by
  intro d
  induction d with
  | zero =>
    intro k i out hi hk ho hj
    obtain ⟨k, rfl⟩ : ∃ m, k = m + 1 := ⟨k - 1, by omega⟩
    simp only [laws_toByteS.l0]
    rw [if_neg (by omega)]
    congr 1
    apply List.ext_getElem?
    intro j
    rcases Nat.lt_or_ge j i with h | h
    · exact hj j h
    · rw [List.getElem?_eq_none (by omega), List.getElem?_eq_none (by omega)]
  | succ d ih =>
    intro k i out hi hk ho hj
    obtain ⟨k, rfl⟩ : ∃ m, k = m + 1 := ⟨k - 1, by omega⟩
    simp only [laws_toByteS.l0]
    rw [if_pos (by omega), if_pos (by omega), if_pos (by omega), succ_at i l.length (by omega) hl, rd_at l i (by omega)]
    refine ih k (i + 1) _ (by omega) (by omega) (by simp [ho]) ?_
    intro j h
    rw [show ((i : Int)).toNat = i by omega, List.getElem?_set]
    by_cases e : i = j
    · subst e
      rw [if_pos rfl, if_pos (by omega), List.getElem?_eq_getElem (by omega)]
    · rw [if_neg e]
      exact hj j (by omega)
theorem laws_toByteS_eq (k : Nat) (l : List Int) (hk : l.length < k) (hl : l.length ≤ 1048576) : laws_toByteS.f k l = some l := by
  unfold laws_toByteS.f
  rw [if_pos (by omega), if_pos (by omega)]
  exact laws_toByteS_loop l (by omega) l.length k 0 _ (by omega) (by omega) (by simp) (by omega)
theorem laws_eqByteS_loop (l : List Int) (hl : l.length ≤ 4611686018427387904) : ∀ (d k i : Nat), i + d = l.length → d < k → laws_eqByteS.l0 k l l (i : Int) = some true := by
  intro d
  induction d with
  | zero =>
    intro k i hi hk
    obtain ⟨k, rfl⟩ : ∃ m, k = m + 1 := ⟨k - 1, by omega⟩
    simp only [laws_eqByteS.l0]
    rw [if_neg (by omega)]
  | succ d ih =>
    intro k i hi hk
    obtain ⟨k, rfl⟩ : ∃ m, k = m + 1 := ⟨k - 1, by omega⟩
    simp only [laws_eqByteS.l0]
    rw [if_pos (by omega), if_pos (by omega), if_pos (by omega), if_pos trivial, succ_at i l.length (by omega) hl]
    exact ih k (i + 1) (by omega) (by omega)
theorem laws_eqByteS_self (k : Nat) (l : List Int) (hk : l.length < k) (hl : l.length ≤ 4611686018427387904) : laws_eqByteS.f k l l = some true := by
  unfold laws_eqByteS.f
  rw [if_pos rfl]
  exact laws_eqByteS_loop l hl l.length k 0 (by omega) (by omega)
theorem main : laws_FnExactEqualBytes.Pure := by
  intro a b _ _ _ _
  refine ⟨a.length + b.length + 1, ?_⟩
  unfold laws_FnExactEqualBytes.f
  by_cases h1 : (a.length : Int) > 1048576
  · rw [if_pos h1]
  by_cases h2 : (b.length : Int) > 1048576
  · rw [if_neg h1, if_pos h2]
  rw [if_neg h1, if_neg h2]
  have ha := laws_toByteS_eq (a.length + b.length + 1) a (by omega) (by omega)
  have hb := laws_toByteS_eq (a.length + b.length + 1) b (by omega) (by omega)
  have ea := laws_eqByteS_self (a.length + b.length + 1) a (by omega) (by omega)
  have eb := laws_eqByteS_self (a.length + b.length + 1) b (by omega) (by omega)
  unfold spec_EqualBytes.f impl_EqualBytes.f bytes_Equal.f
  simp only [ha, hb, ea, eb, Option.bind_some, bne_self_eq_false, if_true, if_false, Bool.false_eq_true]

end Go.Proofs.Ytkgdofogalfhjab.PureFnExactEqualBytes
namespace Go.Proofs.Ytkgdofogalfhjab.Pure
/-- The pure statement. -/
theorem FnExactEqualBytes : Go.Proofs.Ytkgdofogalfhjab.PureFnExactEqualBytes.laws_FnExactEqualBytes.Pure := Go.Proofs.Ytkgdofogalfhjab.PureFnExactEqualBytes.main
end Go.Proofs.Ytkgdofogalfhjab.Pure
