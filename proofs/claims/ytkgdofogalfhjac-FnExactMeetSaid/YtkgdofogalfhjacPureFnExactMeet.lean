/- The printed law FnExactMeet, as a function of numbers and lists, answers true for all arguments that a call can be given; no conditions beyond the sizes that memory allows. -/
import Derived.Test.YtkgdofogalfhjacCutFnExactMeet
namespace Go.Proofs.Ytkgdofogalfhjac.PureFnExactMeet
open Go.RowKit Go.Proofs.Ytkgdofogalfhjac.PFnExactMeet Go.Proofs.YtkgdofogalfhjacW.PrintWords Go.Proofs.YtkgdofogalfhjacW.PrintLast Go.Proofs.YtkgdofogalfhjacW.PrintMore
set_option linter.unusedVariables false
set_option linter.unusedSimpArgs false

/-- The pure statement of laws_FnExactMeet, typed by lawfill.py as print.sh types it where it does. -/
def laws_FnExactMeet.Pure : Prop := ∀ (a0_0 a0_1 : Int) (a1_0 a1_1 : Int), (Lit.int .i64 a0_0).wf = true → (Lit.int .i64 a0_1).wf = true → (Lit.int .i64 a1_0).wf = true → (Lit.int .i64 a1_1).wf = true → laws_FnExactMeet.f a0_0 a0_1 a1_0 a1_1 = some true

def inr (a b c : Int) : Bool := decide (b ≤ a) && decide (a ≤ c)
theorem inr_iff (a b c : Int) : inr a b c = true ↔ b ≤ a ∧ a ≤ c := by unfold inr; simp
theorem l1In_eq (a b c : Int) : spec_l1In.f a b c = some (inr a b c) := by
  unfold spec_l1In.f inr
  by_cases h : b ≤ a <;> simp [h]
theorem inRange_eq (a b c : Int) : impl_InRange.f a b c = some (inr a b c) := by
  unfold impl_InRange.f inr
  by_cases h : b ≤ a <;> simp [h]
def okSpan (a b : Int) : Bool := inr a 0 100000 && inr b 0 100000 && decide (a ≤ b)
theorem sIsSpan (a b : Int) : spec_IsSpan.f a b = some (okSpan a b) := by
  unfold spec_IsSpan.f okSpan
  simp only [l1In_eq, Option.bind_some]
  cases inr a 0 100000 <;> cases inr b 0 100000 <;> simp
theorem iIsSpan (a b : Int) : impl_IsSpan.f a b = some (okSpan a b) := by
  unfold impl_IsSpan.f okSpan
  simp only [inRange_eq, Option.bind_some]
  cases inr a 0 100000 <;> cases inr b 0 100000 <;> simp
theorem main : laws_FnExactMeet.Pure := by
  intro a b c d _ _ _ _
  unfold laws_FnExactMeet.f laws_toSpan.f spec_Meet.f impl_Meet.f
  have e1 : mx a c = if c > a then c else a := by unfold mx; rfl
  have e2 : mn b d = if d < b then d else b := by unfold mn; rfl
  have s1 : spec_Max.f a c = some (mx a c) := by rw [e1]; unfold spec_Max.f; split <;> rfl
  have s2 : spec_Min.f b d = some (mn b d) := by rw [e2]; unfold spec_Min.f; split <;> rfl
  simp only [Option.bind_some, sIsSpan, iIsSpan, s1, s2]
  cases okSpan a b
  · simp [laws_eqSpan.f]
  · cases okSpan c d
    · simp [laws_eqSpan.f]
    · cases okSpan (mx a c) (mn b d) <;> simp [laws_eqSpan.f]

end Go.Proofs.Ytkgdofogalfhjac.PureFnExactMeet
namespace Go.Proofs.Ytkgdofogalfhjac.Pure
/-- The pure statement. -/
theorem FnExactMeet : Go.Proofs.Ytkgdofogalfhjac.PureFnExactMeet.laws_FnExactMeet.Pure := Go.Proofs.Ytkgdofogalfhjac.PureFnExactMeet.main
end Go.Proofs.Ytkgdofogalfhjac.Pure
