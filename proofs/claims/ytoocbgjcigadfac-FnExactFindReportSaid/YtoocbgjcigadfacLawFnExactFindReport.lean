/- The law FnExactFindReport returns true and leaves its arguments as they were, for every input; no conditions. Written by lawfill.py. -/
import Derived.Test.YtoocbgjcigadfacRows
import Derived.Test.YtoocbgjcigadfacWkFnExactFindReportx3
import Derived.Test.YtoocbgjcigadfacPureFnExactFindReport
import Derived.Test.YtoocbgjcigadfacCm
import Derived.WalkKit
import Derived.ProofKit
import Derived.OpenShut
import Derived.ShutString
import Derived.ChangeOld
import Derived.Below
import Derived.SizedLaws
import Derived.Carry
namespace Go.Proofs.Ytoocbgjcigadfac.fnExactFindReport
open Go.ChangeShapes Go.WideShapes Go.ChangeAt Go.RowKit Go.Proofs.Ytoocbgjcigadfac.PFnExactFindReport Go.Proofs.YtoocbgjcigadfacW.PrintWords
open Go.ChangeMaps (open_string shut_string)
set_option linter.unusedVariables false
theorem own : ownKnob Try.prog.godebug = none := by kernel_rfl
theorem laidOut : laidOutB Try.prog = true := by kernel_rfl
set_option maxRecDepth 100000 in
theorem lifted (os : Os) (started : os.Started) (H : Type) (enc : TypeId × Value → H) :
    ReturnsInHanded {} Try.checked os 7 .any (Rows.fnExactFindReportSpec.pre6 enc Try.prog Try.f7 Rows.fnExactFindReportRow.domain false) (Rows.fnExactFindReportSpec.post enc Try.prog Try.f7 false true false false) := by
  refine returnsInHanded_of_change_sized (C := Try.checked) own started (by kernel_rfl) Try.func7
    (ChangeSpec.witness6 (enc := enc) (C := Try.checked) false ⟨#[], #[.slice none 0 0, .int .i64 0], []⟩ 8 (by kernel_rfl) (by kernel_rfl) (by kernel_rfl) (by kernel_rfl)) ?_
  intro W base args ds gs before hval0 hW hcnd hsz0 _
  have hsz : (DataW.weightsEach Try.prog (Try.f7.params.toList ++ Rows.fnExactFindReportSpec.plain.varTypes Try.prog) (ds ++ gs)).all (· ≤ reachBytes) = true := hsz0
  have hval : ∀ (j : Nat) t v, Try.f7.params[j]? = some t → args[j]? = some v → Value.okWide Try.prog W .any base t v := hval0
  have hW' := hW
  obtain ⟨p, q, hA0, hV, rfl, hfz, hnd⟩ := hW
  have hA : DataW.TrodAll enc Try.prog W 0 (fun _ => true) true Try.f7.params.toList args.toList ds p := hA0
  rw [Try.params7] at hA hval hsz
  obtain ⟨v0, vs0, d0, ds0, p0, q0, hargs, rfl, rfl, h0, r0⟩ := trodAll_cons hA
  obtain ⟨v1, vs1, d1, ds1, p1, q1, rfl, rfl, rfl, h1, r1⟩ := trodAll_cons r0
  obtain ⟨rfl, rfl, rfl⟩ := trodAll_nil r1
  obtain rfl : args = #[v0, v1] := by cases args; simp_all
  obtain ⟨rfl, rfl⟩ := trodVars_none hV
  have k0 := h0
  have lt0 := Cm.trod_lt_of k0
  obtain ⟨l0, A0, c0, rfl, hc0, hr0, m0, o0⟩ := Cm.open_as_slice (d := k26) Try.underlying51 (Cm.readsAs_slice Try.underlying51 (by kernel_rfl) (Cm.readsAs_iso (f := fun x : S26 => (x.f0, x.f1, x.f2, x.f3, x.f4, x.f5, x.f6)) (fun a => (⟨a.1, a.2.1, a.2.2.1, a.2.2.2.1, a.2.2.2.2.1, a.2.2.2.2.2.1, a.2.2.2.2.2.2⟩ : S26)) (fun _ => rfl) (Cm.readsAs_struct Try.underlying26 (by kernel_rfl) (Cm.tail_cons _ rfl rfl (by kernel_rfl) (Cm.readsAs_int Try.underlying3) (Cm.tail_cons _ rfl rfl (by kernel_rfl) (Cm.readsAs_int Try.underlying3) (Cm.tail_cons _ rfl rfl (by kernel_rfl) (Cm.readsAs_slice Try.underlying22 (by kernel_rfl) (Cm.readsAs_int Try.underlying3)) (Cm.tail_cons _ rfl rfl (by kernel_rfl) (Cm.readsAs_int Try.underlying3) (Cm.tail_cons _ rfl rfl (by kernel_rfl) (Cm.readsAs_int Try.underlying3) (Cm.tail_cons _ rfl rfl (by kernel_rfl) (Cm.readsAs_slice Try.underlying22 (by kernel_rfl) (Cm.readsAs_int Try.underlying3)) (Cm.tail_last _ rfl rfl (by kernel_rfl) (Cm.readsAs_iso (f := fun x : S24 => (x.f0, x.f1)) (fun a => (⟨a.1, a.2⟩ : S24)) (fun _ => rfl) (Cm.readsAs_struct Try.underlying24 (by kernel_rfl) (Cm.tail_cons _ rfl rfl (by kernel_rfl) (Cm.readsAs_int Try.underlying3) (Cm.tail_last _ rfl rfl (by kernel_rfl) (Cm.readsAs_int Try.underlying3))))))))))))))) (hval 0 51 v0 rfl rfl) h0
  obtain ⟨a1, rfl, rfl, rfl, w1⟩ := open_int Try.underlying3 (hval 1 3 v1 rfl rfl) h1
  clear hA0 hval0 hsz0 hsz
  obtain ⟨k, h⟩ := Pure.FnExactFindReport l0 a1 m0 (fun x hx => ⟨(o0 x hx).2.2.1.1, (o0 x hx).2.2.2.2.2.1.1⟩) w1
  refine (laws_FnExactFindReport.calls k A0 c0 l0 a1 true W hr0 hc0 h).mono ?_
  rintro e W' ⟨rfl, bel0⟩
  have bel : Below W.heap.size W W' := bel0
  exact ⟨_, rfl, _, _, _, [], _, [], hW', trodAll_mk1 (shut_bool Try.underlying4 _), (trodAll_cons_mk (Below.trod laidOut (by kernel_rfl) (of_decide_eq_true (by kernel_rfl)) k0 bel lt0) (trodAll_cons_mk (shut_int Try.underlying3 w1) trodAll_mk0)), rfl, bel.frame _, fun h => by cases h⟩
theorem over : Rows.fnExactFindReportRow.holds Try.pinned (OpenSpec.ofChange Rows.fnExactFindReportSpec) :=
  OpenClaim.holds_of_wide 7 Try.f7 rfl rfl rfl rfl rfl rfl rfl ⟨rfl, rfl, rfl, rfl, rfl⟩ rfl rfl rfl rfl rfl (by kernel_rfl) Try.func7 (by kernel_rfl)
    (of_decide_eq_true (by kernel_rfl)) (by unfold Func.isWrapper; first | (rw [if_pos (by decide +kernel)]; kernel_rfl) | (rw [if_neg (by decide +kernel)]; exact ⟨rfl, rfl⟩))
    (fun os started H enc _ => lifted os started H enc)
theorem proved : Rows.FnExactFindReportSaid := over
#print axioms proved
end Go.Proofs.Ytoocbgjcigadfac.fnExactFindReport
namespace Go.Proofs.Ytoocbgjcigadfac
/-- The row, under a short name, for the claim. -/
theorem fnExactFindReport_holds : Rows.FnExactFindReportSaid := fnExactFindReport.proved
end Go.Proofs.Ytoocbgjcigadfac
