/- The law FnExactIsReport returns true and leaves its arguments as they were, for every input; no conditions. Written by lawfill.py. -/
import Derived.Test.YtoocbgjcigadfacRows
import Derived.Test.YtoocbgjcigadfacPFnExactIsReportx3
import Derived.Test.YtoocbgjcigadfacPureFnExactIsReport
import Derived.Test.YtoocbgjcigadfacCm
import Derived.WalkKit
import Derived.ProofKit
import Derived.OpenShut
import Derived.ShutString
import Derived.ChangeOld
import Derived.Below
import Derived.SizedLaws
import Derived.Carry
namespace Go.Proofs.Ytoocbgjcigadfac.fnExactIsReport
open Go.ChangeShapes Go.WideShapes Go.ChangeAt Go.RowKit Go.Proofs.Ytoocbgjcigadfac.PFnExactIsReport Go.Proofs.YtoocbgjcigadfacW.PrintWords
open Go.ChangeMaps (open_string shut_string)
set_option linter.unusedVariables false
theorem own : ownKnob Try.prog.godebug = none := by kernel_rfl
theorem laidOut : laidOutB Try.prog = true := by kernel_rfl
set_option maxRecDepth 100000 in
theorem lifted (os : Os) (started : os.Started) (H : Type) (enc : TypeId × Value → H) :
    ReturnsInHanded {} Try.checked os 3 .any (Rows.fnExactIsReportSpec.pre6 enc Try.prog Try.f3 Rows.fnExactIsReportRow.domain false) (Rows.fnExactIsReportSpec.post enc Try.prog Try.f3 false true false false) := by
  refine returnsInHanded_of_change_sized (C := Try.checked) own started (by kernel_rfl) Try.func3
    (ChangeSpec.witness6 (enc := enc) (C := Try.checked) false ⟨#[], #[.agg #[.int .i64 0, .int .i64 0, .slice none 0 0, .int .i64 0, .int .i64 0, .slice none 0 0, .int .i64 0, .int .i64 0]], []⟩ 8 (by kernel_rfl) (by kernel_rfl) (by kernel_rfl) (by kernel_rfl)) ?_
  intro W base args ds gs before hval0 hW hcnd hsz0 _
  have hsz : (DataW.weightsEach Try.prog (Try.f3.params.toList ++ Rows.fnExactIsReportSpec.plain.varTypes Try.prog) (ds ++ gs)).all (· ≤ reachBytes) = true := hsz0
  have hval : ∀ (j : Nat) t v, Try.f3.params[j]? = some t → args[j]? = some v → Value.okWide Try.prog W .any base t v := hval0
  have hW' := hW
  obtain ⟨p, q, hA0, hV, rfl, hfz, hnd⟩ := hW
  have hA : DataW.TrodAll enc Try.prog W 0 (fun _ => true) true Try.f3.params.toList args.toList ds p := hA0
  rw [Try.params3] at hA hval hsz
  obtain ⟨v0, vs0, d0, ds0, p0, q0, hargs, rfl, rfl, h0, r0⟩ := trodAll_cons hA
  obtain ⟨rfl, rfl, rfl⟩ := trodAll_nil r0
  obtain rfl : args = #[v0] := by cases args; simp_all
  obtain ⟨rfl, rfl⟩ := trodVars_none hV
  have k0 := h0
  have lt0 := Cm.trod_lt_of k0
  obtain ⟨⟨a0_0, ⟨a0_1, ⟨l0_2, ⟨a0_3, ⟨a0_4, ⟨l0_5, ⟨a0_6, a0_7⟩⟩⟩⟩⟩⟩⟩, cs0, rfl, K0, ⟨w0_0, ⟨w0_1, ⟨⟨m0_2, o0_2⟩, ⟨w0_3, ⟨w0_4, ⟨⟨m0_5, o0_5⟩, ⟨w0_6, w0_7⟩⟩⟩⟩⟩⟩⟩⟩ := Cm.open_as_struct Try.underlying26 (Cm.readsAs_struct Try.underlying26 (by kernel_rfl) (Cm.tail_cons _ rfl rfl (by kernel_rfl) (Cm.readsAs_int Try.underlying3) (Cm.tail_cons _ rfl rfl (by kernel_rfl) (Cm.readsAs_int Try.underlying3) (Cm.tail_cons _ rfl rfl (by kernel_rfl) (Cm.readsAs_slice Try.underlying22 (by kernel_rfl) (Cm.readsAs_int Try.underlying3)) (Cm.tail_cons _ rfl rfl (by kernel_rfl) (Cm.readsAs_int Try.underlying3) (Cm.tail_cons _ rfl rfl (by kernel_rfl) (Cm.readsAs_int Try.underlying3) (Cm.tail_cons _ rfl rfl (by kernel_rfl) (Cm.readsAs_slice Try.underlying22 (by kernel_rfl) (Cm.readsAs_int Try.underlying3)) (Cm.tail_last _ rfl rfl (by kernel_rfl) (Cm.readsAs_struct Try.underlying24 (by kernel_rfl) (Cm.tail_cons _ rfl rfl (by kernel_rfl) (Cm.readsAs_int Try.underlying3) (Cm.tail_last _ rfl rfl (by kernel_rfl) (Cm.readsAs_int Try.underlying3)))))))))))) (hval 0 26 v0 rfl rfl) h0
  obtain ⟨_, _, rfl, rfl, ⟨_, _, rfl, rfl, ⟨_, _, rfl, ⟨A0_2, c0_2, rfl, hc0_2, hr0_2⟩, ⟨_, _, rfl, rfl, ⟨_, _, rfl, rfl, ⟨_, _, rfl, ⟨A0_5, c0_5, rfl, hc0_5, hr0_5⟩, ⟨_, _, rfl, rfl, rfl⟩⟩⟩⟩⟩⟩⟩ := K0
  clear hA0 hval0 hsz0 hsz
  obtain ⟨k, h⟩ := Pure.FnExactIsReport a0_0 a0_1 l0_2 a0_3 a0_4 l0_5 a0_6 a0_7 w0_0 w0_1 m0_2 o0_2 w0_3 w0_4 m0_5 o0_5 w0_6 w0_7
  refine (laws_FnExactIsReport.calls k a0_0 a0_1 A0_2 c0_2 l0_2 a0_3 a0_4 A0_5 c0_5 l0_5 a0_6 a0_7 true W hr0_2 hc0_2 hr0_5 hc0_5 h).mono ?_
  rintro e W' ⟨rfl, bel0⟩
  have bel : Below W.heap.size W W' := bel0
  exact ⟨_, rfl, _, _, _, [], _, [], hW', trodAll_mk1 (shut_bool Try.underlying4 _), (trodAll_cons_mk (Below.trod laidOut (by kernel_rfl) (of_decide_eq_true (by kernel_rfl)) k0 bel lt0) trodAll_mk0), rfl, bel.frame _, fun h => by cases h⟩
theorem over : Rows.fnExactIsReportRow.holds Try.pinned (OpenSpec.ofChange Rows.fnExactIsReportSpec) :=
  OpenClaim.holds_of_wide 3 Try.f3 rfl rfl rfl rfl rfl rfl rfl ⟨rfl, rfl, rfl, rfl, rfl⟩ rfl rfl rfl rfl rfl (by kernel_rfl) Try.func3 (by kernel_rfl)
    (of_decide_eq_true (by kernel_rfl)) (by unfold Func.isWrapper; first | (rw [if_pos (by decide +kernel)]; kernel_rfl) | (rw [if_neg (by decide +kernel)]; exact ⟨rfl, rfl⟩))
    (fun os started H enc _ => lifted os started H enc)
theorem proved : Rows.FnExactIsReportSaid := over
#print axioms proved
end Go.Proofs.Ytoocbgjcigadfac.fnExactIsReport
namespace Go.Proofs.Ytoocbgjcigadfac
/-- The row, under a short name, for the claim. -/
theorem fnExactIsReport_holds : Rows.FnExactIsReportSaid := fnExactIsReport.proved
end Go.Proofs.Ytoocbgjcigadfac
