/- The printed law FnExactIsFind, as a function of numbers and lists, answers true for all arguments that a call can be given; no conditions beyond the sizes that memory allows. -/
import Derived.Test.YtkgdofogalfhjabPFnExactIsFindx1
namespace Go.Proofs.Ytkgdofogalfhjab.PureFnExactIsFind
open Go.RowKit Go.Proofs.Ytkgdofogalfhjab.PFnExactIsFind Go.Proofs.YtkgdofogalfhjabW.PrintWords Go.Proofs.YtkgdofogalfhjabW.PrintLast Go.Proofs.YtkgdofogalfhjabW.PrintMore
set_option linter.unusedVariables false
set_option linter.unusedSimpArgs false

/-- The pure statement of laws_FnExactIsFind, typed by lawfill.py as print.sh types it where it does. -/
def laws_FnExactIsFind.Pure : Prop := ∀ (a0_0 a0_1 a0_2 a0_3 a0_4 a0_5 a0_6 a0_7 : Int), (Lit.int .i64 a0_0).wf = true → (Lit.int .i64 a0_1).wf = true → (Lit.int .i64 a0_2).wf = true → (Lit.int .i64 a0_3).wf = true → (Lit.int .i64 a0_4).wf = true → (Lit.int .i64 a0_5).wf = true → (Lit.int .i64 a0_6).wf = true → (Lit.int .i64 a0_7).wf = true → laws_FnExactIsFind.f a0_0 a0_1 a0_2 a0_3 a0_4 a0_5 a0_6 a0_7 = some true

def inr (a b c : Int) : Bool := decide (b ≤ a) && decide (a ≤ c)
theorem inr_iff (a b c : Int) : inr a b c = true ↔ b ≤ a ∧ a ≤ c := by unfold inr; simp
theorem l1In_eq (a b c : Int) : spec_l1In.f a b c = some (inr a b c) := by
  unfold spec_l1In.f inr
  by_cases h : b ≤ a <;> simp [h]
theorem inRange_eq (a b c : Int) : impl_InRange.f a b c = some (inr a b c) := by
  unfold impl_InRange.f inr
  by_cases h : b ≤ a <;> simp [h]
def okThing (a b c d e : Int) : Bool := inr a 1 999 && inr b 1 8 && inr c 0 7 && inr d 1 50 && inr e 0 10000000
theorem sIsThing (a b c d e : Int) : spec_IsThing.f a b c d e = some (okThing a b c d e) := by
  unfold spec_IsThing.f okThing
  simp only [l1In_eq, Option.bind_some]
  cases inr a 1 999 <;> cases inr b 1 8 <;> cases inr c 0 7 <;> cases inr d 1 50 <;> simp
theorem iIsThing (a b c d e : Int) : impl_IsThing.f a b c d e = some (okThing a b c d e) := by
  unfold impl_IsThing.f okThing
  simp only [inRange_eq, Option.bind_some]
  cases inr a 1 999 <;> cases inr b 1 8 <;> cases inr c 0 7 <;> cases inr d 1 50 <;> simp
def okFind (a b c d e p h f : Int) : Bool := okThing a b c d e && inr p 1 30 && inr h 0 100000 && inr f 0 999
theorem sIsFind (a b c d e p h f : Int) : spec_IsFind.f a b c d e p h f = some (okFind a b c d e p h f) := by
  unfold spec_IsFind.f okFind
  simp only [sIsThing, l1In_eq, Option.bind_some]
  cases okThing a b c d e <;> cases inr p 1 30 <;> cases inr h 0 100000 <;> simp
theorem iIsFind (a b c d e p h f : Int) : impl_IsFind.f a b c d e p h f = some (okFind a b c d e p h f) := by
  unfold impl_IsFind.f okFind
  simp only [iIsThing, inRange_eq, Option.bind_some]
  cases okThing a b c d e <;> cases inr p 1 30 <;> cases inr h 0 100000 <;> simp
theorem main : laws_FnExactIsFind.Pure := by
  intro a b c d e p h f _ _ _ _ _ _ _ _
  unfold laws_FnExactIsFind.f laws_toFind.f laws_toThing.f
  simp only [Option.bind_some, sIsFind, iIsFind]
  simp

end Go.Proofs.Ytkgdofogalfhjab.PureFnExactIsFind
namespace Go.Proofs.Ytkgdofogalfhjab.Pure
/-- The pure statement. -/
theorem FnExactIsFind : Go.Proofs.Ytkgdofogalfhjab.PureFnExactIsFind.laws_FnExactIsFind.Pure := Go.Proofs.Ytkgdofogalfhjab.PureFnExactIsFind.main
end Go.Proofs.Ytkgdofogalfhjab.Pure
