/- The printed law FnExactWiden, as a function of numbers and lists, answers true for all arguments that a call can be given; no conditions beyond the sizes that memory allows. -/
import Derived.Test.YtkgdofogalfhjacPFnExactWidenx1
namespace Go.Proofs.Ytkgdofogalfhjac.PureFnExactWiden
open Go.RowKit Go.Proofs.Ytkgdofogalfhjac.PFnExactWiden Go.Proofs.YtkgdofogalfhjacW.PrintWords Go.Proofs.YtkgdofogalfhjacW.PrintLast Go.Proofs.YtkgdofogalfhjacW.PrintMore
set_option linter.unusedVariables false
set_option linter.unusedSimpArgs false

/-- The pure statement of laws_FnExactWiden, typed by lawfill.py as print.sh types it where it does. -/
def laws_FnExactWiden.Pure : Prop := ∀ (a0_0 a0_1 : Int) (a1 : Int), (Lit.int .i64 a0_0).wf = true → (Lit.int .i64 a0_1).wf = true → (Lit.int .i64 a1).wf = true → ∃ k, laws_FnExactWiden.f k a0_0 a0_1 a1 = some true

def inr (a b c : Int) : Bool := decide (b ≤ a) && decide (a ≤ c)
theorem inr_iff (a b c : Int) : inr a b c = true ↔ b ≤ a ∧ a ≤ c := by unfold inr; simp
theorem l1In_eq (a b c : Int) : spec_l1In.f a b c = some (inr a b c) := by
  unfold spec_l1In.f inr
  by_cases h : b ≤ a <;> simp [h]
theorem inRange_eq (a b c : Int) : impl_InRange.f a b c = some (inr a b c) := by
  unfold impl_InRange.f inr
  by_cases h : b ≤ a <;> simp [h]
def okSpan (a b : Int) : Bool := inr a 0 100000 && inr b 0 100000 && decide (a ≤ b)
theorem sIsSpan (a b : Int) : spec_IsSpan.f a b = some (okSpan a b) := by
  unfold spec_IsSpan.f okSpan
  simp only [l1In_eq, Option.bind_some]
  cases inr a 0 100000 <;> cases inr b 0 100000 <;> simp
theorem iIsSpan (a b : Int) : impl_IsSpan.f a b = some (okSpan a b) := by
  unfold impl_IsSpan.f okSpan
  simp only [inRange_eq, Option.bind_some]
  cases inr a 0 100000 <;> cases inr b 0 100000 <;> simp
theorem main : laws_FnExactWiden.Pure := by
  intro a b n _ _ _
  refine ⟨1, ?_⟩
  unfold laws_FnExactWiden.f laws_toSpan.f spec_Widen.f impl_Widen.f
  simp only [Option.bind_some, sIsSpan, iIsSpan, l1In_eq, inRange_eq, spec_Widen.j0, spec_Max.f, spec_Min.f]
  have e1 : mx 0 (wrap64 (a - n)) = if wrap64 (a - n) > 0 then wrap64 (a - n) else 0 := by unfold mx; rfl
  have e2 : mn 100000 (wrap64 (b + n)) = if wrap64 (b + n) < 100000 then wrap64 (b + n) else 100000 := by unfold mn; rfl
  cases okSpan a b
  · simp [laws_eqSpan.f]
  · cases inr n 0 100000
    · simp [laws_eqSpan.f]
    · rw [e1, e2]
      by_cases h1 : wrap64 (a - n) > 0 <;> by_cases h2 : wrap64 (b + n) < 100000 <;> simp [h1, h2, laws_eqSpan.f]

end Go.Proofs.Ytkgdofogalfhjac.PureFnExactWiden
namespace Go.Proofs.Ytkgdofogalfhjac.Pure
/-- The pure statement. -/
theorem FnExactWiden : Go.Proofs.Ytkgdofogalfhjac.PureFnExactWiden.laws_FnExactWiden.Pure := Go.Proofs.Ytkgdofogalfhjac.PureFnExactWiden.main
end Go.Proofs.Ytkgdofogalfhjac.Pure
