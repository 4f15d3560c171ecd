/- The printed law FnExactIsThing, as a function of numbers and lists, answers true for all arguments that a call can be given; no conditions beyond the sizes that memory allows. -/
import Derived.Test.YtkgdofogalfhjaaPFnExactIsThingx1
namespace Go.Proofs.Ytkgdofogalfhjaa.PureFnExactIsThing
open Go.RowKit Go.Proofs.Ytkgdofogalfhjaa.PFnExactIsThing Go.Proofs.YtkgdofogalfhjaaW.PrintWords Go.Proofs.YtkgdofogalfhjaaW.PrintLast Go.Proofs.YtkgdofogalfhjaaW.PrintMore
set_option linter.unusedVariables false
set_option linter.unusedSimpArgs false

/-- The pure statement of laws_FnExactIsThing, typed by lawfill.py as print.sh types it where it does. -/
def laws_FnExactIsThing.Pure : Prop := ∀ (a0_0 a0_1 a0_2 a0_3 a0_4 : Int), (Lit.int .i64 a0_0).wf = true → (Lit.int .i64 a0_1).wf = true → (Lit.int .i64 a0_2).wf = true → (Lit.int .i64 a0_3).wf = true → (Lit.int .i64 a0_4).wf = true → laws_FnExactIsThing.f a0_0 a0_1 a0_2 a0_3 a0_4 = some true

def inr (a b c : Int) : Bool := decide (b ≤ a) && decide (a ≤ c)
theorem inr_iff (a b c : Int) : inr a b c = true ↔ b ≤ a ∧ a ≤ c := by unfold inr; simp
theorem l1In_eq (a b c : Int) : spec_l1In.f a b c = some (inr a b c) := by
  unfold spec_l1In.f inr
  by_cases h : b ≤ a <;> simp [h]
theorem inRange_eq (a b c : Int) : impl_InRange.f a b c = some (inr a b c) := by
  unfold impl_InRange.f inr
  by_cases h : b ≤ a <;> simp [h]
def okThing (a b c d e : Int) : Bool := inr a 1 999 && inr b 1 8 && inr c 0 7 && inr d 1 50 && inr e 0 10000000
theorem sIsThing (a b c d e : Int) : spec_IsThing.f a b c d e = some (okThing a b c d e) := by
  unfold spec_IsThing.f okThing
  simp only [l1In_eq, Option.bind_some]
  cases inr a 1 999 <;> cases inr b 1 8 <;> cases inr c 0 7 <;> cases inr d 1 50 <;> simp
theorem iIsThing (a b c d e : Int) : impl_IsThing.f a b c d e = some (okThing a b c d e) := by
  unfold impl_IsThing.f okThing
  simp only [inRange_eq, Option.bind_some]
  cases inr a 1 999 <;> cases inr b 1 8 <;> cases inr c 0 7 <;> cases inr d 1 50 <;> simp
theorem main : laws_FnExactIsThing.Pure := by
  intro a b c d e _ _ _ _ _
  unfold laws_FnExactIsThing.f laws_toThing.f
  simp only [Option.bind_some, sIsThing, iIsThing]
  simp

end Go.Proofs.Ytkgdofogalfhjaa.PureFnExactIsThing
namespace Go.Proofs.Ytkgdofogalfhjaa.Pure
/-- The pure statement. -/
theorem FnExactIsThing : Go.Proofs.Ytkgdofogalfhjaa.PureFnExactIsThing.laws_FnExactIsThing.Pure := Go.Proofs.Ytkgdofogalfhjaa.PureFnExactIsThing.main
end Go.Proofs.Ytkgdofogalfhjaa.Pure
