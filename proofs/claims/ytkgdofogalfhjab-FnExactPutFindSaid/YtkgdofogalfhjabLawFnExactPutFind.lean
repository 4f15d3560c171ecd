/- The law FnExactPutFind returns true and leaves its arguments as they were, for every input; no conditions. Written by lawfill.py. -/
import Derived.Test.YtkgdofogalfhjabRows
import Derived.Test.YtkgdofogalfhjabCutFnExactPutFind
import Derived.Test.YtkgdofogalfhjabPureFnExactPutFind
import Derived.Test.YtkgdofogalfhjabCm
import Derived.WalkKit
import Derived.ProofKit
import Derived.OpenShut
import Derived.ShutString
import Derived.ChangeOld
import Derived.Below
import Derived.SizedLaws
import Derived.Carry
namespace Go.Proofs.Ytkgdofogalfhjab.fnExactPutFind
open Go.ChangeShapes Go.WideShapes Go.ChangeAt Go.RowKit Go.Proofs.Ytkgdofogalfhjab.PFnExactPutFind Go.Proofs.YtkgdofogalfhjabW.PrintWords
open Go.ChangeMaps (open_string shut_string)
set_option linter.unusedVariables false
theorem own : ownKnob Try.prog.godebug = none := by kernel_rfl
theorem laidOut : laidOutB Try.prog = true := by kernel_rfl
set_option maxRecDepth 100000 in
theorem lifted (os : Os) (started : os.Started) (H : Type) (enc : TypeId × Value → H) :
    ReturnsInHanded {} Try.checked os 4 .any (Rows.fnExactPutFindSpec.pre6 enc Try.prog Try.f4 Rows.fnExactPutFindRow.domain false) (Rows.fnExactPutFindSpec.post enc Try.prog Try.f4 false true false false) := by
  refine returnsInHanded_of_change_sized (C := Try.checked) own started (by kernel_rfl) Try.func4
    (ChangeSpec.witness6 (enc := enc) (C := Try.checked) false ⟨#[], #[.slice none 0 0, .agg #[.int .i64 0, .int .i64 0, .int .i64 0, .int .i64 0, .int .i64 0, .int .i64 0, .int .i64 0, .int .i64 0]], []⟩ 8 (by kernel_rfl) (by kernel_rfl) (by kernel_rfl) (by kernel_rfl)) ?_
  intro W base args ds gs before hval0 hW hcnd hsz0 _
  have hsz : (DataW.weightsEach Try.prog (Try.f4.params.toList ++ Rows.fnExactPutFindSpec.plain.varTypes Try.prog) (ds ++ gs)).all (· ≤ reachBytes) = true := hsz0
  have hval : ∀ (j : Nat) t v, Try.f4.params[j]? = some t → args[j]? = some v → Value.okWide Try.prog W .any base t v := hval0
  have hW' := hW
  obtain ⟨p, q, hA0, hV, rfl, hfz, hnd⟩ := hW
  have hA : DataW.TrodAll enc Try.prog W 0 (fun _ => true) true Try.f4.params.toList args.toList ds p := hA0
  rw [Try.params4] at hA hval hsz
  obtain ⟨v0, vs0, d0, ds0, p0, q0, hargs, rfl, rfl, h0, r0⟩ := trodAll_cons hA
  obtain ⟨v1, vs1, d1, ds1, p1, q1, rfl, rfl, rfl, h1, r1⟩ := trodAll_cons r0
  obtain ⟨rfl, rfl, rfl⟩ := trodAll_nil r1
  obtain rfl : args = #[v0, v1] := by cases args; simp_all
  obtain ⟨rfl, rfl⟩ := trodVars_none hV
  have k0 := h0
  have lt0 := Cm.trod_lt_of k0
  obtain ⟨l0, A0, c0, rfl, hc0, hr0, m0, o0⟩ := Cm.open_as_slice (d := k28) Try.underlying24 (Cm.readsAs_slice Try.underlying24 (by kernel_rfl) (Cm.readsAs_iso (f := fun x : S28 => (x.f0, x.f1, x.f2, x.f3)) (fun a => (⟨a.1, a.2.1, a.2.2.1, a.2.2.2⟩ : S28)) (fun _ => rfl) (Cm.readsAs_struct Try.underlying28 (by kernel_rfl) (Cm.tail_cons _ rfl rfl (by kernel_rfl) (Cm.readsAs_iso (f := fun x : S26 => (x.f0, x.f1, x.f2, x.f3, x.f4)) (fun a => (⟨a.1, a.2.1, a.2.2.1, a.2.2.2.1, a.2.2.2.2⟩ : S26)) (fun _ => rfl) (Cm.readsAs_struct Try.underlying26 (by kernel_rfl) (Cm.tail_cons _ rfl rfl (by kernel_rfl) (Cm.readsAs_int Try.underlying3) (Cm.tail_cons _ rfl rfl (by kernel_rfl) (Cm.readsAs_int Try.underlying3) (Cm.tail_cons _ rfl rfl (by kernel_rfl) (Cm.readsAs_int Try.underlying3) (Cm.tail_cons _ rfl rfl (by kernel_rfl) (Cm.readsAs_int Try.underlying3) (Cm.tail_last _ rfl rfl (by kernel_rfl) (Cm.readsAs_int Try.underlying3)))))))) (Cm.tail_cons _ rfl rfl (by kernel_rfl) (Cm.readsAs_int Try.underlying3) (Cm.tail_cons _ rfl rfl (by kernel_rfl) (Cm.readsAs_int Try.underlying3) (Cm.tail_last _ rfl rfl (by kernel_rfl) (Cm.readsAs_int Try.underlying3)))))))) (hval 0 24 v0 rfl rfl) h0
  have k1 := h1
  have lt1 := Cm.trod_lt_of k1
  obtain ⟨⟨⟨a1_0, ⟨a1_1, ⟨a1_2, ⟨a1_3, a1_4⟩⟩⟩⟩, ⟨a1_5, ⟨a1_6, a1_7⟩⟩⟩, cs1, rfl, K1, ⟨⟨w1_0, ⟨w1_1, ⟨w1_2, ⟨w1_3, w1_4⟩⟩⟩⟩, ⟨w1_5, ⟨w1_6, w1_7⟩⟩⟩⟩ := Cm.open_as_struct Try.underlying28 (Cm.readsAs_struct Try.underlying28 (by kernel_rfl) (Cm.tail_cons _ rfl rfl (by kernel_rfl) (Cm.readsAs_struct Try.underlying26 (by kernel_rfl) (Cm.tail_cons _ rfl rfl (by kernel_rfl) (Cm.readsAs_int Try.underlying3) (Cm.tail_cons _ rfl rfl (by kernel_rfl) (Cm.readsAs_int Try.underlying3) (Cm.tail_cons _ rfl rfl (by kernel_rfl) (Cm.readsAs_int Try.underlying3) (Cm.tail_cons _ rfl rfl (by kernel_rfl) (Cm.readsAs_int Try.underlying3) (Cm.tail_last _ rfl rfl (by kernel_rfl) (Cm.readsAs_int Try.underlying3))))))) (Cm.tail_cons _ rfl rfl (by kernel_rfl) (Cm.readsAs_int Try.underlying3) (Cm.tail_cons _ rfl rfl (by kernel_rfl) (Cm.readsAs_int Try.underlying3) (Cm.tail_last _ rfl rfl (by kernel_rfl) (Cm.readsAs_int Try.underlying3)))))) (hval 1 28 v1 rfl rfl) h1
  obtain ⟨_, _, rfl, ⟨_, _, rfl, rfl, ⟨_, _, rfl, rfl, ⟨_, _, rfl, rfl, ⟨_, _, rfl, rfl, rfl⟩⟩⟩⟩, ⟨_, _, rfl, rfl, ⟨_, _, rfl, rfl, rfl⟩⟩⟩ := K1
  clear hA0 hval0 hsz0 hsz
  obtain ⟨k, h⟩ := Pure.FnExactPutFind l0 a1_0 a1_1 a1_2 a1_3 a1_4 a1_5 a1_6 a1_7 m0 w1_0 w1_1 w1_2 w1_3 w1_4 w1_5 w1_6 w1_7
  refine (laws_FnExactPutFind.calls k A0 c0 l0 a1_0 a1_1 a1_2 a1_3 a1_4 a1_5 a1_6 a1_7 true W rfl hr0 hc0 h).mono ?_
  rintro e W' ⟨rfl, bel0⟩
  have bel : Below W.heap.size W W' := bel0
  exact ⟨_, rfl, _, _, _, [], _, [], hW', trodAll_mk1 (shut_bool Try.underlying4 _), (trodAll_cons_mk (Below.trod laidOut (by kernel_rfl) (of_decide_eq_true (by kernel_rfl)) k0 bel lt0) (trodAll_cons_mk (Below.trod laidOut (by kernel_rfl) (of_decide_eq_true (by kernel_rfl)) k1 bel lt1) trodAll_mk0)), rfl, bel.frame _, fun h => by cases h⟩
theorem over : Rows.fnExactPutFindRow.holds Try.pinned (OpenSpec.ofChange Rows.fnExactPutFindSpec) :=
  OpenClaim.holds_of_wide 4 Try.f4 rfl rfl rfl rfl rfl rfl rfl ⟨rfl, rfl, rfl, rfl, rfl⟩ rfl rfl rfl rfl rfl (by kernel_rfl) Try.func4 (by kernel_rfl)
    (of_decide_eq_true (by kernel_rfl)) (by unfold Func.isWrapper; first | (rw [if_pos (by decide +kernel)]; kernel_rfl) | (rw [if_neg (by decide +kernel)]; exact ⟨rfl, rfl⟩))
    (fun os started H enc _ => lifted os started H enc)
theorem proved : Rows.FnExactPutFindSaid := over
#print axioms proved
end Go.Proofs.Ytkgdofogalfhjab.fnExactPutFind
namespace Go.Proofs.Ytkgdofogalfhjab
/-- The row, under a short name, for the claim. -/
theorem fnExactPutFind_holds : Rows.FnExactPutFindSaid := fnExactPutFind.proved
end Go.Proofs.Ytkgdofogalfhjab
