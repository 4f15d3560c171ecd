/- The law FnExactEqualReports returns true and leaves its arguments as they were, for every input; no conditions. Written by lawfill.py. -/
import Derived.Test.YtoocbgjcigadfabRows
import Derived.Test.YtoocbgjcigadfabCutFnExactEqualReports
import Derived.Test.YtoocbgjcigadfabPureFnExactEqualReports
import Derived.Test.YtoocbgjcigadfabCm
import Derived.WalkKit
import Derived.ProofKit
import Derived.OpenShut
import Derived.ShutString
import Derived.ChangeOld
import Derived.Below
import Derived.SizedLaws
import Derived.Carry
namespace Go.Proofs.Ytoocbgjcigadfab.fnExactEqualReports
open Go.ChangeShapes Go.WideShapes Go.ChangeAt Go.RowKit Go.Proofs.Ytoocbgjcigadfab.PFnExactEqualReports Go.Proofs.YtoocbgjcigadfabW.PrintWords
open Go.ChangeMaps (open_string shut_string)
set_option linter.unusedVariables false
theorem own : ownKnob Try.prog.godebug = none := by kernel_rfl
theorem laidOut : laidOutB Try.prog = true := by kernel_rfl
set_option maxRecDepth 100000 in
theorem lifted (os : Os) (started : os.Started) (H : Type) (enc : TypeId × Value → H) :
    ReturnsInHanded {} Try.checked os 7 .any (Rows.fnExactEqualReportsSpec.pre6 enc Try.prog Try.f7 Rows.fnExactEqualReportsRow.domain false) (Rows.fnExactEqualReportsSpec.post enc Try.prog Try.f7 false true false false) := by
  refine returnsInHanded_of_change_sized (C := Try.checked) own started (by kernel_rfl) Try.func7
    (ChangeSpec.witness6 (enc := enc) (C := Try.checked) false ⟨#[], #[.agg #[.int .i64 0, .int .i64 0, .slice none 0 0, .int .i64 0, .int .i64 0, .slice none 0 0, .int .i64 0, .int .i64 0], .agg #[.int .i64 0, .int .i64 0, .slice none 0 0, .int .i64 0, .int .i64 0, .slice none 0 0, .int .i64 0, .int .i64 0]], []⟩ 8 (by kernel_rfl) (by kernel_rfl) (by kernel_rfl) (by kernel_rfl)) ?_
  intro W base args ds gs before hval0 hW hcnd hsz0 _
  have hsz : (DataW.weightsEach Try.prog (Try.f7.params.toList ++ Rows.fnExactEqualReportsSpec.plain.varTypes Try.prog) (ds ++ gs)).all (· ≤ reachBytes) = true := hsz0
  have hval : ∀ (j : Nat) t v, Try.f7.params[j]? = some t → args[j]? = some v → Value.okWide Try.prog W .any base t v := hval0
  have hW' := hW
  obtain ⟨p, q, hA0, hV, rfl, hfz, hnd⟩ := hW
  have hA : DataW.TrodAll enc Try.prog W 0 (fun _ => true) true Try.f7.params.toList args.toList ds p := hA0
  rw [Try.params7] at hA hval hsz
  obtain ⟨v0, vs0, d0, ds0, p0, q0, hargs, rfl, rfl, h0, r0⟩ := trodAll_cons hA
  obtain ⟨v1, vs1, d1, ds1, p1, q1, rfl, rfl, rfl, h1, r1⟩ := trodAll_cons r0
  obtain ⟨rfl, rfl, rfl⟩ := trodAll_nil r1
  obtain rfl : args = #[v0, v1] := by cases args; simp_all
  obtain ⟨rfl, rfl⟩ := trodVars_none hV
  have k0 := h0
  have lt0 := Cm.trod_lt_of k0
  obtain ⟨⟨a0_0, ⟨a0_1, ⟨l0_2, ⟨a0_3, ⟨a0_4, ⟨l0_5, ⟨a0_6, a0_7⟩⟩⟩⟩⟩⟩⟩, cs0, rfl, K0, ⟨w0_0, ⟨w0_1, ⟨⟨m0_2, o0_2⟩, ⟨w0_3, ⟨w0_4, ⟨⟨m0_5, o0_5⟩, ⟨w0_6, w0_7⟩⟩⟩⟩⟩⟩⟩⟩ := Cm.open_as_struct Try.underlying51 (Cm.readsAs_struct Try.underlying51 (by kernel_rfl) (Cm.tail_cons _ rfl rfl (by kernel_rfl) (Cm.readsAs_int Try.underlying3) (Cm.tail_cons _ rfl rfl (by kernel_rfl) (Cm.readsAs_int Try.underlying3) (Cm.tail_cons _ rfl rfl (by kernel_rfl) (Cm.readsAs_slice Try.underlying37 (by kernel_rfl) (Cm.readsAs_int Try.underlying3)) (Cm.tail_cons _ rfl rfl (by kernel_rfl) (Cm.readsAs_int Try.underlying3) (Cm.tail_cons _ rfl rfl (by kernel_rfl) (Cm.readsAs_int Try.underlying3) (Cm.tail_cons _ rfl rfl (by kernel_rfl) (Cm.readsAs_slice Try.underlying37 (by kernel_rfl) (Cm.readsAs_int Try.underlying3)) (Cm.tail_last _ rfl rfl (by kernel_rfl) (Cm.readsAs_struct Try.underlying49 (by kernel_rfl) (Cm.tail_cons _ rfl rfl (by kernel_rfl) (Cm.readsAs_int Try.underlying3) (Cm.tail_last _ rfl rfl (by kernel_rfl) (Cm.readsAs_int Try.underlying3)))))))))))) (hval 0 51 v0 rfl rfl) h0
  obtain ⟨_, _, rfl, rfl, ⟨_, _, rfl, rfl, ⟨_, _, rfl, ⟨A0_2, c0_2, rfl, hc0_2, hr0_2⟩, ⟨_, _, rfl, rfl, ⟨_, _, rfl, rfl, ⟨_, _, rfl, ⟨A0_5, c0_5, rfl, hc0_5, hr0_5⟩, ⟨_, _, rfl, rfl, rfl⟩⟩⟩⟩⟩⟩⟩ := K0
  have k1 := h1
  have lt1 := Cm.trod_lt_of k1
  obtain ⟨⟨a1_0, ⟨a1_1, ⟨l1_2, ⟨a1_3, ⟨a1_4, ⟨l1_5, ⟨a1_6, a1_7⟩⟩⟩⟩⟩⟩⟩, cs1, rfl, K1, ⟨w1_0, ⟨w1_1, ⟨⟨m1_2, o1_2⟩, ⟨w1_3, ⟨w1_4, ⟨⟨m1_5, o1_5⟩, ⟨w1_6, w1_7⟩⟩⟩⟩⟩⟩⟩⟩ := Cm.open_as_struct Try.underlying51 (Cm.readsAs_struct Try.underlying51 (by kernel_rfl) (Cm.tail_cons _ rfl rfl (by kernel_rfl) (Cm.readsAs_int Try.underlying3) (Cm.tail_cons _ rfl rfl (by kernel_rfl) (Cm.readsAs_int Try.underlying3) (Cm.tail_cons _ rfl rfl (by kernel_rfl) (Cm.readsAs_slice Try.underlying37 (by kernel_rfl) (Cm.readsAs_int Try.underlying3)) (Cm.tail_cons _ rfl rfl (by kernel_rfl) (Cm.readsAs_int Try.underlying3) (Cm.tail_cons _ rfl rfl (by kernel_rfl) (Cm.readsAs_int Try.underlying3) (Cm.tail_cons _ rfl rfl (by kernel_rfl) (Cm.readsAs_slice Try.underlying37 (by kernel_rfl) (Cm.readsAs_int Try.underlying3)) (Cm.tail_last _ rfl rfl (by kernel_rfl) (Cm.readsAs_struct Try.underlying49 (by kernel_rfl) (Cm.tail_cons _ rfl rfl (by kernel_rfl) (Cm.readsAs_int Try.underlying3) (Cm.tail_last _ rfl rfl (by kernel_rfl) (Cm.readsAs_int Try.underlying3)))))))))))) (hval 1 51 v1 rfl rfl) h1
  obtain ⟨_, _, rfl, rfl, ⟨_, _, rfl, rfl, ⟨_, _, rfl, ⟨A1_2, c1_2, rfl, hc1_2, hr1_2⟩, ⟨_, _, rfl, rfl, ⟨_, _, rfl, rfl, ⟨_, _, rfl, ⟨A1_5, c1_5, rfl, hc1_5, hr1_5⟩, ⟨_, _, rfl, rfl, rfl⟩⟩⟩⟩⟩⟩⟩ := K1
  clear hA0 hval0 hsz0 hsz
  obtain ⟨k, h⟩ := Pure.FnExactEqualReports a0_0 a0_1 l0_2 a0_3 a0_4 l0_5 a0_6 a0_7 a1_0 a1_1 l1_2 a1_3 a1_4 l1_5 a1_6 a1_7 w0_0 w0_1 m0_2 o0_2 w0_3 w0_4 m0_5 o0_5 w0_6 w0_7 w1_0 w1_1 m1_2 o1_2 w1_3 w1_4 m1_5 o1_5 w1_6 w1_7
  refine (laws_FnExactEqualReports.calls k a0_0 a0_1 A0_2 c0_2 l0_2 a0_3 a0_4 A0_5 c0_5 l0_5 a0_6 a0_7 a1_0 a1_1 A1_2 c1_2 l1_2 a1_3 a1_4 A1_5 c1_5 l1_5 a1_6 a1_7 true W rfl hr0_2 hc0_2 hr0_5 hc0_5 hr1_2 hc1_2 hr1_5 hc1_5 h).mono ?_
  rintro e W' ⟨rfl, bel0⟩
  have bel : Below W.heap.size W W' := bel0
  exact ⟨_, rfl, _, _, _, [], _, [], hW', trodAll_mk1 (shut_bool Try.underlying4 _), (trodAll_cons_mk (Below.trod laidOut (by kernel_rfl) (of_decide_eq_true (by kernel_rfl)) k0 bel lt0) (trodAll_cons_mk (Below.trod laidOut (by kernel_rfl) (of_decide_eq_true (by kernel_rfl)) k1 bel lt1) trodAll_mk0)), rfl, bel.frame _, fun h => by cases h⟩
theorem over : Rows.fnExactEqualReportsRow.holds Try.pinned (OpenSpec.ofChange Rows.fnExactEqualReportsSpec) :=
  OpenClaim.holds_of_wide 7 Try.f7 rfl rfl rfl rfl rfl rfl rfl ⟨rfl, rfl, rfl, rfl, rfl⟩ rfl rfl rfl rfl rfl (by kernel_rfl) Try.func7 (by kernel_rfl)
    (of_decide_eq_true (by kernel_rfl)) (by unfold Func.isWrapper; first | (rw [if_pos (by decide +kernel)]; kernel_rfl) | (rw [if_neg (by decide +kernel)]; exact ⟨rfl, rfl⟩))
    (fun os started H enc _ => lifted os started H enc)
theorem proved : Rows.FnExactEqualReportsSaid := over
#print axioms proved
end Go.Proofs.Ytoocbgjcigadfab.fnExactEqualReports
namespace Go.Proofs.Ytoocbgjcigadfab
/-- The row, under a short name, for the claim. -/
theorem fnExactEqualReports_holds : Rows.FnExactEqualReportsSaid := fnExactEqualReports.proved
end Go.Proofs.Ytoocbgjcigadfab
