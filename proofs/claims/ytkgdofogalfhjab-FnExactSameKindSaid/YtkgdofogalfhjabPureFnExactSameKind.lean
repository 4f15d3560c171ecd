/- The printed law FnExactSameKind, as a function of numbers and lists, answers true for all arguments that a call can be given; no conditions beyond the sizes that memory allows. -/
import Derived.Test.YtkgdofogalfhjabPFnExactSameKindx2
namespace Go.Proofs.Ytkgdofogalfhjab.PureFnExactSameKind
open Go.RowKit Go.Proofs.Ytkgdofogalfhjab.PFnExactSameKind Go.Proofs.YtkgdofogalfhjabW.PrintWords Go.Proofs.YtkgdofogalfhjabW.PrintLast Go.Proofs.YtkgdofogalfhjabW.PrintMore
set_option linter.unusedVariables false
set_option linter.unusedSimpArgs false

/-- The pure statement of laws_FnExactSameKind, typed by lawfill.py as print.sh types it where it does. -/
def laws_FnExactSameKind.Pure : Prop := ∀ (a0_0 a0_1 a0_2 a0_3 a0_4 : Int) (a1_0 a1_1 a1_2 a1_3 a1_4 : Int), (Lit.int .i64 a0_0).wf = true → (Lit.int .i64 a0_1).wf = true → (Lit.int .i64 a0_2).wf = true → (Lit.int .i64 a0_3).wf = true → (Lit.int .i64 a0_4).wf = true → (Lit.int .i64 a1_0).wf = true → (Lit.int .i64 a1_1).wf = true → (Lit.int .i64 a1_2).wf = true → (Lit.int .i64 a1_3).wf = true → (Lit.int .i64 a1_4).wf = true → laws_FnExactSameKind.f a0_0 a0_1 a0_2 a0_3 a0_4 a1_0 a1_1 a1_2 a1_3 a1_4 = some true

def inr (a b c : Int) : Bool := decide (b ≤ a) && decide (a ≤ c)
theorem inr_iff (a b c : Int) : inr a b c = true ↔ b ≤ a ∧ a ≤ c := by unfold inr; simp
theorem l1In_eq (a b c : Int) : spec_l1In.f a b c = some (inr a b c) := by
  unfold spec_l1In.f inr
  by_cases h : b ≤ a <;> simp [h]
theorem inRange_eq (a b c : Int) : impl_InRange.f a b c = some (inr a b c) := by
  unfold impl_InRange.f inr
  by_cases h : b ≤ a <;> simp [h]
def okThing (a b c d e : Int) : Bool := inr a 1 999 && inr b 1 8 && inr c 0 7 && inr d 1 50 && inr e 0 10000000
theorem sIsThing (a b c d e : Int) : spec_IsThing.f a b c d e = some (okThing a b c d e) := by
  unfold spec_IsThing.f okThing
  simp only [l1In_eq, Option.bind_some]
  cases inr a 1 999 <;> cases inr b 1 8 <;> cases inr c 0 7 <;> cases inr d 1 50 <;> simp
theorem iIsThing (a b c d e : Int) : impl_IsThing.f a b c d e = some (okThing a b c d e) := by
  unfold impl_IsThing.f okThing
  simp only [inRange_eq, Option.bind_some]
  cases inr a 1 999 <;> cases inr b 1 8 <;> cases inr c 0 7 <;> cases inr d 1 50 <;> simp
theorem main : laws_FnExactSameKind.Pure := by
  intro a b c d e f g h i j _ _ _ _ _ _ _ _ _ _
  unfold laws_FnExactSameKind.f laws_toThing.f spec_SameKind.f impl_SameKind.f
  simp only [Option.bind_some, sIsThing, iIsThing]
  cases okThing a b c d e <;> cases okThing f g h i j <;> simp

end Go.Proofs.Ytkgdofogalfhjab.PureFnExactSameKind
namespace Go.Proofs.Ytkgdofogalfhjab.Pure
/-- The pure statement. -/
theorem FnExactSameKind : Go.Proofs.Ytkgdofogalfhjab.PureFnExactSameKind.laws_FnExactSameKind.Pure := Go.Proofs.Ytkgdofogalfhjab.PureFnExactSameKind.main
end Go.Proofs.Ytkgdofogalfhjab.Pure
