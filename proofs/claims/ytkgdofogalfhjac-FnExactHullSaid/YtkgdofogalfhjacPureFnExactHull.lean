/- The printed law FnExactHull, as a function of numbers and lists, answers true for all arguments that a call can be given; no conditions beyond the sizes that memory allows. -/
import Derived.Test.YtkgdofogalfhjacCutFnExactHull
namespace Go.Proofs.Ytkgdofogalfhjac.PureFnExactHull
open Go.RowKit Go.Proofs.Ytkgdofogalfhjac.PFnExactHull Go.Proofs.YtkgdofogalfhjacW.PrintWords Go.Proofs.YtkgdofogalfhjacW.PrintLast Go.Proofs.YtkgdofogalfhjacW.PrintMore
set_option linter.unusedVariables false
set_option linter.unusedSimpArgs false

/-- The pure statement of laws_FnExactHull, typed by lawfill.py as print.sh types it where it does. -/
def laws_FnExactHull.Pure : Prop := ∀ (a0_0 a0_1 : Int) (a1_0 a1_1 : Int), (Lit.int .i64 a0_0).wf = true → (Lit.int .i64 a0_1).wf = true → (Lit.int .i64 a1_0).wf = true → (Lit.int .i64 a1_1).wf = true → ∃ k, laws_FnExactHull.f k a0_0 a0_1 a1_0 a1_1 = some true

def inr (a b c : Int) : Bool := decide (b ≤ a) && decide (a ≤ c)
theorem inr_iff (a b c : Int) : inr a b c = true ↔ b ≤ a ∧ a ≤ c := by unfold inr; simp
theorem l1In_eq (a b c : Int) : spec_l1In.f a b c = some (inr a b c) := by
  unfold spec_l1In.f inr
  by_cases h : b ≤ a <;> simp [h]
theorem inRange_eq (a b c : Int) : impl_InRange.f a b c = some (inr a b c) := by
  unfold impl_InRange.f inr
  by_cases h : b ≤ a <;> simp [h]
def okSpan (a b : Int) : Bool := inr a 0 100000 && inr b 0 100000 && decide (a ≤ b)
theorem sIsSpan (a b : Int) : spec_IsSpan.f a b = some (okSpan a b) := by
  unfold spec_IsSpan.f okSpan
  simp only [l1In_eq, Option.bind_some]
  cases inr a 0 100000 <;> cases inr b 0 100000 <;> simp
theorem iIsSpan (a b : Int) : impl_IsSpan.f a b = some (okSpan a b) := by
  unfold impl_IsSpan.f okSpan
  simp only [inRange_eq, Option.bind_some]
  cases inr a 0 100000 <;> cases inr b 0 100000 <;> simp
theorem main : laws_FnExactHull.Pure := by
  intro a b c d _ _ _ _
  refine ⟨1, ?_⟩
  unfold laws_FnExactHull.f laws_toSpan.f spec_Hull.f impl_Hull.f
  simp only [Option.bind_some, sIsSpan, iIsSpan, spec_Hull.j0, spec_Max.f, spec_Min.f]
  have e1 : mn a c = if c < a then c else a := by unfold mn; rfl
  have e2 : mx b d = if d > b then d else b := by unfold mx; rfl
  cases okSpan a b
  · simp [laws_eqSpan.f]
  · cases okSpan c d
    · simp [laws_eqSpan.f]
    · rw [e1, e2]
      by_cases h1 : c < a <;> by_cases h2 : d > b <;> simp [h1, h2, laws_eqSpan.f]

end Go.Proofs.Ytkgdofogalfhjac.PureFnExactHull
namespace Go.Proofs.Ytkgdofogalfhjac.Pure
/-- The pure statement. -/
theorem FnExactHull : Go.Proofs.Ytkgdofogalfhjac.PureFnExactHull.laws_FnExactHull.Pure := Go.Proofs.Ytkgdofogalfhjac.PureFnExactHull.main
end Go.Proofs.Ytkgdofogalfhjac.Pure
