/- The numbers that the printed law FnExactCeilDiv computes are such that it answers true, for all arguments; no conditions. -/
import Derived.Test.YtncpcbkkdnmcdaaPFnExactCeilDivx1
namespace Go.Proofs.Ytncpcbkkdnmcdaa.PureFnExactCeilDiv
open Go.RowKit Go.Proofs.Ytncpcbkkdnmcdaa.PFnExactCeilDiv Go.Proofs.YtncpcbkkdnmcdaaW.PrintWords Go.Proofs.YtncpcbkkdnmcdaaW.PrintLast Go.Proofs.YtncpcbkkdnmcdaaW.PrintMore
set_option linter.unusedVariables false
set_option linter.unusedSimpArgs false

theorem range (a b c : Int) : impl_InRange.f a b c = spec_l1In.f a b c := by
  unfold impl_InRange.f spec_l1In.f
  rfl
theorem l1In (a b c : Int) : spec_l1In.f a b c = some (decide (b ≤ a) && decide (a ≤ c)) := by
  unfold spec_l1In.f
  by_cases h : b ≤ a <;> simp [h]
theorem main : laws_FnExactCeilDiv.Pure := by
  intro a b _ _
  have h : impl_CeilDiv.f a b = spec_CeilDiv.f a b := by
    unfold impl_CeilDiv.f spec_CeilDiv.f
    simp only [range]
  unfold laws_FnExactCeilDiv.f
  rw [h]
  have e : ∃ r, spec_CeilDiv.f a b = some r := by
    unfold spec_CeilDiv.f
    simp only [l1In, Option.bind_some]
    by_cases h1 : (decide (0 ≤ a) && decide (a ≤ 1000000000000)) = true
    · by_cases h2 : (decide (1 ≤ b) && decide (b ≤ 1000000000000)) = true
      · have : b ≠ 0 := by simp at h2; omega
        rw [if_pos h1, if_pos h2, if_neg this]
        exact ⟨_, rfl⟩
      · rw [if_pos h1, if_neg h2]
        exact ⟨_, rfl⟩
    · rw [if_neg h1]
      exact ⟨_, rfl⟩
  obtain ⟨r, hr⟩ := e
  rw [hr]
  simp

end Go.Proofs.Ytncpcbkkdnmcdaa.PureFnExactCeilDiv
namespace Go.Proofs.Ytncpcbkkdnmcdaa.Pure
/-- The pure statement. -/
theorem FnExactCeilDiv : Go.Proofs.Ytncpcbkkdnmcdaa.PFnExactCeilDiv.laws_FnExactCeilDiv.Pure := Go.Proofs.Ytncpcbkkdnmcdaa.PureFnExactCeilDiv.main
end Go.Proofs.Ytncpcbkkdnmcdaa.Pure
