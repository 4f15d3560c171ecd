/- The law FnFinds called on values at which its printed function answers true returns true, and nothing that lay in memory before is changed; no other conditions. (Out of print.sh's own print of this law, which was too long for one file: the ways that end in false are struck.) -/
import Derived.Test.YtkgdofogalfhjacWkFnFindsx0
import Derived.Test.YtkgdofogalfhjacWkFnFindsx1
import Derived.Test.YtkgdofogalfhjacWkFnFindsx2
import Derived.Test.YtkgdofogalfhjacWkFnFindsx3
import Derived.Test.YtkgdofogalfhjacWkFnFindsx4
import Derived.Test.YtkgdofogalfhjacWkFnFindsx5
import Derived.Test.YtkgdofogalfhjacWkFnFindsx6
import Derived.Test.YtkgdofogalfhjacWkFnFindsx7
namespace Go.Proofs.Ytkgdofogalfhjac.PFnFinds
open Go.RowKit Go.Proofs.YtkgdofogalfhjacW.PrintWords Go.Proofs.YtkgdofogalfhjacW.PrintLast Go.Proofs.YtkgdofogalfhjacW.PrintMore
attribute [local go_sem] max2_int min2_int max_two min_two max_three min_three max_four min_four   -- for this text's walks alone
set_option linter.unusedVariables false
set_option linter.unusedSimpArgs false

/-! ### laws_FnFinds: function 4 -/
mutual
def laws_FnFinds.j0 : Nat → List Int → Bool → Option (Bool)
 | 0, _, _ => none
 | k + 1, x0, x82 => if x82 = true then (some false) else ((spec_DrawFoundIn.f k x0).bind fun bt447 => ((impl_FoundIn.f k bt447.1 bt447.2.1 bt447.2.2).bind fun t453 => (laws_FnFinds.l0 k x0 bt447.1 t453 0 0 bt447.2.1 bt447.2.2)))
def laws_FnFinds.l0 : Nat → List Int → List (S31) → List Int → Int → Int → Int → Int → Option (Bool)
 | 0, _, _, _, _, _, _, _ => none
 | k + 1, x0, x7, x9, x10, x11, x453000, x453001 => if x11 < (x7.length : Int) then (if 0 ≤ x11 then ((impl_Holds.f x453000 x453001 ((rd_T31 x7 x11).f2)).bind fun t457 => (if t457 = true then (laws_FnFinds.l0 k x0 x7 x9 (wrap64 (x10 + 1)) (wrap64 (x11 + 1)) x453000 x453001) else (laws_FnFinds.l0 k x0 x7 x9 x10 (wrap64 (x11 + 1)) x453000 x453001))) else (none)) else ((spec_DrawFoundAt.f k x0).bind fun bt458 => (if x10 = (x9.length : Int) then ((impl_AreFinds.f k x7).bind fun t462 => (if t462 = true then ((laws_ascends.f k x9).bind fun t463 => (if t463 = true then ((impl_AreFinds.f k bt458.1).bind fun t464 => (if t464 = true then ((impl_FoundAt.f k bt458.1 bt458.2).bind fun t465 => ((laws_ascends.f k t465).bind fun t468 => (some t468))) else (some true))) else (some false))) else ((impl_AreFinds.f k bt458.1).bind fun t469 => (if t469 = true then ((impl_FoundAt.f k bt458.1 bt458.2).bind fun t470 => ((laws_ascends.f k t470).bind fun t473 => (some t473))) else (some true))))) else (some false)))
end
def laws_FnFinds.f (k : Nat) (l0 : List Int) : Option (Bool) := (laws_big.f l0).bind fun t422 => (if t422 = true then (some true) else ((spec_DrawPutFind.f k l0).bind fun bt423 => ((impl_PutFind.f k bt423.1 bt423.2.1 bt423.2.2.1 bt423.2.2.2.1 bt423.2.2.2.2.1 bt423.2.2.2.2.2.1 bt423.2.2.2.2.2.2.1 bt423.2.2.2.2.2.2.2.1 bt423.2.2.2.2.2.2.2.2).bind fun bt435 => (if bt435.2 = true then ((impl_AreFinds.f k bt435.1).bind fun t439 => (if t439 = true then (if (bt435.1.length : Int) = (wrap64 ((bt423.1.length : Int) + 1)) then ((impl_FindThing.f k bt435.1 bt423.2.1).bind fun t440 => (if t440 < 0 then (laws_FnFinds.j0 k l0 true) else ((impl_FindThing.f k bt435.1 bt423.2.1).bind fun t441 => (if 0 ≤ t441 then (if t441 < (bt435.1.length : Int) then (if ((!(((rd_T31 bt435.1 t441).f0.f0) == bt423.2.1) || (!(((rd_T31 bt435.1 t441).f0.f1) == bt423.2.2.1) || (!(((rd_T31 bt435.1 t441).f0.f2) == bt423.2.2.2.1) || (!(((rd_T31 bt435.1 t441).f0.f3) == bt423.2.2.2.2.1) || (!(((rd_T31 bt435.1 t441).f0.f4) == bt423.2.2.2.2.2.1)))))) || (!(((rd_T31 bt435.1 t441).f1) == bt423.2.2.2.2.2.2.1) || (!(((rd_T31 bt435.1 t441).f2) == bt423.2.2.2.2.2.2.2.1) || (!(((rd_T31 bt435.1 t441).f3) == bt423.2.2.2.2.2.2.2.2))))) = true then (laws_FnFinds.j0 k l0 true) else ((impl_FoundAt.f k bt435.1 bt423.2.2.2.2.2.2.1).bind fun t443 => ((laws_contains.f k t443 bt423.2.1).bind fun t446 => (if t446 = true then (laws_FnFinds.j0 k l0 false) else (laws_FnFinds.j0 k l0 true))))) else (none)) else (none))))) else (laws_FnFinds.j0 k l0 true)) else (laws_FnFinds.j0 k l0 true))) else (laws_FnFinds.j0 k l0 ((bt435.1.length : Int) != (bt423.1.length : Int)))))))
theorem laws_FnFinds.mono_l : ∀ k, (∀ y0 y1, LeO (laws_FnFinds.j0 k y0 y1) (laws_FnFinds.j0 (k + 1) y0 y1)) ∧ (∀ y0 y1 y2 y3 y4 y5 y6, LeO (laws_FnFinds.l0 k y0 y1 y2 y3 y4 y5 y6) (laws_FnFinds.l0 (k + 1) y0 y1 y2 y3 y4 y5 y6))
 | 0 => ⟨fun _ _ r h => by simp [laws_FnFinds.j0] at h, fun _ _ _ _ _ _ _ r h => by simp [laws_FnFinds.l0] at h⟩
 | k + 1 => by
  obtain ⟨ih0, ih1⟩ := laws_FnFinds.mono_l k
  refine ⟨?_, ?_⟩
  ·intro y0 y1
   unfold laws_FnFinds.j0
   repeat' first
   | (with_reducible exact ih0 _ _)
   | (with_reducible exact ih1 _ _ _ _ _ _ _)
   | (with_reducible exact impl_AreFinds.mono _ _)
   | (with_reducible exact impl_FindThing.mono _ _ _)
   | (with_reducible exact impl_FoundAt.mono _ _ _)
   | (with_reducible exact impl_FoundIn.mono _ _ _ _)
   | (with_reducible exact impl_PutFind.mono _ _ _ _ _ _ _ _ _ _)
   | (with_reducible exact laws_ascends.mono _ _)
   | (with_reducible exact laws_contains.mono _ _ _)
   | (with_reducible exact spec_DrawFoundAt.mono _ _)
   | (with_reducible exact spec_DrawFoundIn.mono _ _)
   | (with_reducible exact spec_DrawPutFind.mono _ _)
   | (with_reducible exact LeO.refl _)
   | (with_reducible exact LeO.none _)
   | (with_reducible refine LeO.ite ?_ ?_)
   | (with_reducible refine LeO.bind ?_ (fun _ => ?_))
   | exact ih0 _ _
   | exact ih1 _ _ _ _ _ _ _
   | exact impl_AreFinds.mono _ _
   | exact impl_FindThing.mono _ _ _
   | exact impl_FoundAt.mono _ _ _
   | exact impl_FoundIn.mono _ _ _ _
   | exact impl_PutFind.mono _ _ _ _ _ _ _ _ _ _
   | exact laws_ascends.mono _ _
   | exact laws_contains.mono _ _ _
   | exact spec_DrawFoundAt.mono _ _
   | exact spec_DrawFoundIn.mono _ _
   | exact spec_DrawPutFind.mono _ _
   | exact LeO.none _
   | refine LeO.ite ?_ ?_
   | refine LeO.bind ?_ (fun _ => ?_)
  ·intro y0 y1 y2 y3 y4 y5 y6
   unfold laws_FnFinds.l0
   repeat' first
   | (with_reducible exact ih0 _ _)
   | (with_reducible exact ih1 _ _ _ _ _ _ _)
   | (with_reducible exact impl_AreFinds.mono _ _)
   | (with_reducible exact impl_FindThing.mono _ _ _)
   | (with_reducible exact impl_FoundAt.mono _ _ _)
   | (with_reducible exact impl_FoundIn.mono _ _ _ _)
   | (with_reducible exact impl_PutFind.mono _ _ _ _ _ _ _ _ _ _)
   | (with_reducible exact laws_ascends.mono _ _)
   | (with_reducible exact laws_contains.mono _ _ _)
   | (with_reducible exact spec_DrawFoundAt.mono _ _)
   | (with_reducible exact spec_DrawFoundIn.mono _ _)
   | (with_reducible exact spec_DrawPutFind.mono _ _)
   | (with_reducible exact LeO.refl _)
   | (with_reducible exact LeO.none _)
   | (with_reducible refine LeO.ite ?_ ?_)
   | (with_reducible refine LeO.bind ?_ (fun _ => ?_))
   | exact ih0 _ _
   | exact ih1 _ _ _ _ _ _ _
   | exact impl_AreFinds.mono _ _
   | exact impl_FindThing.mono _ _ _
   | exact impl_FoundAt.mono _ _ _
   | exact impl_FoundIn.mono _ _ _ _
   | exact impl_PutFind.mono _ _ _ _ _ _ _ _ _ _
   | exact laws_ascends.mono _ _
   | exact laws_contains.mono _ _ _
   | exact spec_DrawFoundAt.mono _ _
   | exact spec_DrawFoundIn.mono _ _
   | exact spec_DrawPutFind.mono _ _
   | exact LeO.none _
   | refine LeO.ite ?_ ?_
   | refine LeO.bind ?_ (fun _ => ?_)
theorem laws_FnFinds.mono : ∀ a0 k, LeO (laws_FnFinds.f k a0) (laws_FnFinds.f (k + 1) a0) := by
 intro a0 k
 obtain ⟨ih0, ih1⟩ := laws_FnFinds.mono_l k
 unfold laws_FnFinds.f
 repeat' first
   | (with_reducible exact ih0 _ _)
   | (with_reducible exact ih1 _ _ _ _ _ _ _)
   | (with_reducible exact impl_AreFinds.mono _ _)
   | (with_reducible exact impl_FindThing.mono _ _ _)
   | (with_reducible exact impl_FoundAt.mono _ _ _)
   | (with_reducible exact impl_FoundIn.mono _ _ _ _)
   | (with_reducible exact impl_PutFind.mono _ _ _ _ _ _ _ _ _ _)
   | (with_reducible exact laws_ascends.mono _ _)
   | (with_reducible exact laws_contains.mono _ _ _)
   | (with_reducible exact spec_DrawFoundAt.mono _ _)
   | (with_reducible exact spec_DrawFoundIn.mono _ _)
   | (with_reducible exact spec_DrawPutFind.mono _ _)
   | (with_reducible exact LeO.refl _)
   | (with_reducible exact LeO.none _)
   | (with_reducible refine LeO.ite ?_ ?_)
   | (with_reducible refine LeO.bind ?_ (fun _ => ?_))
   | exact ih0 _ _
   | exact ih1 _ _ _ _ _ _ _
   | exact impl_AreFinds.mono _ _
   | exact impl_FindThing.mono _ _ _
   | exact impl_FoundAt.mono _ _ _
   | exact impl_FoundIn.mono _ _ _ _
   | exact impl_PutFind.mono _ _ _ _ _ _ _ _ _ _
   | exact laws_ascends.mono _ _
   | exact laws_contains.mono _ _ _
   | exact spec_DrawFoundAt.mono _ _
   | exact spec_DrawFoundIn.mono _ _
   | exact spec_DrawPutFind.mono _ _
   | exact LeO.none _
   | refine LeO.ite ?_ ?_
   | refine LeO.bind ?_ (fun _ => ?_)
def laws_FnFinds.T5 : Bool × List (List Nat × List Nat) := (true, [([], []), ([0], [0]), ([1], [1]), ([2, 1, 1], [1, 2]), ([3, 1], [1, 3]), ([4, 3, 1], [1, 4]), ([5], [5]), ([6, 5], [5, 6]), ([5], [5]), ([8, 5], [5, 8]), ([9, 5], [5, 9]), ([7, 10, 5], [5, 7, 10]), ([5, 11, 1], [1, 5, 11]), ([12, 5, 1], [1, 12]), ([13], [13]), ([13], [13]), ([15, 13], [13, 15]), ([16, 13], [13, 16]), ([14, 17, 13, 13], [13, 14, 17]), ([18, 13], [13, 18]), ([13, 19, 1], [1, 13, 19]), ([20, 18, 1], [1, 20]), ([21], [21]), ([21], [21]), ([21], [21]), ([24, 21], [21, 24]), ([25, 21], [21, 25]), ([23, 26, 21, 21], [21, 23, 26]), ([22, 27, 21], [21, 22, 27]), ([28, 21], [21, 28]), ([21], [21]), ([29, 30, 21], [21, 29, 30]), ([21, 31, 1], [1, 21, 31]), ([32, 27, 1], [1, 32]), ([33], [33]), ([33], [33]), ([35, 33], [33, 35]), ([34, 36, 33, 33], [33, 34, 36]), ([33], [33]), ([38, 33], [33, 38]), ([39, 33], [33, 39]), ([37, 40, 37, 33], [33, 37, 40]), ([41, 33], [33, 41]), ([33, 42, 1], [1, 33, 42]), ([1, 43], [1, 43]), ([44, 41], [44]), ([45], [45]), ([46, 45], [45, 46]), ([47, 45, 45], [45, 47]), ([48], [48]), ([49, 48], [48, 49]), ([48], [48]), ([51, 48], [48, 51]), ([50, 52, 48], [48, 50, 52]), ([48, 53, 45], [45, 48, 53]), ([45, 54], [45, 54])])
def laws_FnFinds.B5 : List Nat := [0, 1, 3, 7, 15, 31, 63, 127, 63, 319, 831, 2047, 4095, 8191, 16383, 16383, 49151, 114687, 262143, 524287, 1048575, 2097151, 4194303, 4194303, 4194303, 20971519, 54525951, 130023423, 268435455, 536870911, 4194303, 2147483647, 4294967295, 8589934591, 17179869183, 17179869183, 51539607551, 137438953471, 17179869183, 292057776127, 841813590015, 2199023255551, 4398046511103, 8796093022207, 17592186044415, 35184372088831, 70368744177663, 140737488355327, 281474976710655, 562949953421311, 1125899906842623, 562949953421311, 2814749767106559, 9007199254740991, 18014398509481983, 36028797018963967]
theorem laws_FnFinds.tab5 : rtab .any (opsOf Try.f4 5) = laws_FnFinds.T5 := by kernel_rfl
theorem laws_FnFinds.bits5 : waitsOk laws_FnFinds.T5.2 laws_FnFinds.B5 = true := by kernel_rfl
theorem laws_FnFinds.j0_no : ∀ k y0, laws_FnFinds.j0 k y0 true ≠ some true := by
 intro k y0
 cases k <;> simp [laws_FnFinds.j0]
set_option maxHeartbeats 8000000 in
set_option maxRecDepth 100000 in
theorem laws_FnFinds.calls (k : Nat) (A0 : Option Addr) (c0 : Nat) (l0 : List Int) (r : Bool) (w : World) (hrt : r = true) (hr0 : Kd.C (Kd.int .u8) w A0 l0.length l0) (hc0 : l0.length ≤ c0) (h : laws_FnFinds.f k l0 = some r) :
  Calls Try.prog 4 #[.slice A0 l0.length c0] w fun e w' => e = .returned (.bool r) ∧ Below w.heap.size w w' := by
 subst hrt
 have hu31 := Try.underlying31
 have hu41 := Try.underlying41
 have HR0 := Aside0.mk hr0
 have HC0 := Aside0.mk hc0
 clear hr0 hc0
 have HB := Aside0.mk (Below.refl w.heap.size w)
 have H : ((laws_big.f l0).bind fun t422 => (if t422 = true then (some true) else ((spec_DrawPutFind.f k l0).bind fun bt423 => ((impl_PutFind.f k bt423.1 bt423.2.1 bt423.2.2.1 bt423.2.2.2.1 bt423.2.2.2.2.1 bt423.2.2.2.2.2.1 bt423.2.2.2.2.2.2.1 bt423.2.2.2.2.2.2.2.1 bt423.2.2.2.2.2.2.2.2).bind fun bt435 => (if bt435.2 = true then ((impl_AreFinds.f k bt435.1).bind fun t439 => (if t439 = true then (if (bt435.1.length : Int) = (wrap64 ((bt423.1.length : Int) + 1)) then ((impl_FindThing.f k bt435.1 bt423.2.1).bind fun t440 => (if t440 < 0 then (laws_FnFinds.j0 k l0 true) else ((impl_FindThing.f k bt435.1 bt423.2.1).bind fun t441 => (if 0 ≤ t441 then (if t441 < (bt435.1.length : Int) then (if ((!(((rd_T31 bt435.1 t441).f0.f0) == bt423.2.1) || (!(((rd_T31 bt435.1 t441).f0.f1) == bt423.2.2.1) || (!(((rd_T31 bt435.1 t441).f0.f2) == bt423.2.2.2.1) || (!(((rd_T31 bt435.1 t441).f0.f3) == bt423.2.2.2.2.1) || (!(((rd_T31 bt435.1 t441).f0.f4) == bt423.2.2.2.2.2.1)))))) || (!(((rd_T31 bt435.1 t441).f1) == bt423.2.2.2.2.2.2.1) || (!(((rd_T31 bt435.1 t441).f2) == bt423.2.2.2.2.2.2.2.1) || (!(((rd_T31 bt435.1 t441).f3) == bt423.2.2.2.2.2.2.2.2))))) = true then (laws_FnFinds.j0 k l0 true) else ((impl_FoundAt.f k bt435.1 bt423.2.2.2.2.2.2.1).bind fun t443 => ((laws_contains.f k t443 bt423.2.1).bind fun t446 => (if t446 = true then (laws_FnFinds.j0 k l0 false) else (laws_FnFinds.j0 k l0 true))))) else (none)) else (none))))) else (laws_FnFinds.j0 k l0 true)) else (laws_FnFinds.j0 k l0 true))) else (laws_FnFinds.j0 k l0 ((bt435.1.length : Int) != (bt423.1.length : Int)))))))) = some true := h
 clear h
 replace H := obm H
 obtain ⟨t422, A20, H⟩ := H
 replace H : (if t422 = true then (some true) else ((spec_DrawPutFind.f k l0).bind fun bt423 => ((impl_PutFind.f k bt423.1 bt423.2.1 bt423.2.2.1 bt423.2.2.2.1 bt423.2.2.2.2.1 bt423.2.2.2.2.2.1 bt423.2.2.2.2.2.2.1 bt423.2.2.2.2.2.2.2.1 bt423.2.2.2.2.2.2.2.2).bind fun bt435 => (if bt435.2 = true then ((impl_AreFinds.f k bt435.1).bind fun t439 => (if t439 = true then (if (bt435.1.length : Int) = (wrap64 ((bt423.1.length : Int) + 1)) then ((impl_FindThing.f k bt435.1 bt423.2.1).bind fun t440 => (if t440 < 0 then (laws_FnFinds.j0 k l0 true) else ((impl_FindThing.f k bt435.1 bt423.2.1).bind fun t441 => (if 0 ≤ t441 then (if t441 < (bt435.1.length : Int) then (if ((!(((rd_T31 bt435.1 t441).f0.f0) == bt423.2.1) || (!(((rd_T31 bt435.1 t441).f0.f1) == bt423.2.2.1) || (!(((rd_T31 bt435.1 t441).f0.f2) == bt423.2.2.2.1) || (!(((rd_T31 bt435.1 t441).f0.f3) == bt423.2.2.2.2.1) || (!(((rd_T31 bt435.1 t441).f0.f4) == bt423.2.2.2.2.2.1)))))) || (!(((rd_T31 bt435.1 t441).f1) == bt423.2.2.2.2.2.2.1) || (!(((rd_T31 bt435.1 t441).f2) == bt423.2.2.2.2.2.2.2.1) || (!(((rd_T31 bt435.1 t441).f3) == bt423.2.2.2.2.2.2.2.2))))) = true then (laws_FnFinds.j0 k l0 true) else ((impl_FoundAt.f k bt435.1 bt423.2.2.2.2.2.2.1).bind fun t443 => ((laws_contains.f k t443 bt423.2.1).bind fun t446 => (if t446 = true then (laws_FnFinds.j0 k l0 false) else (laws_FnFinds.j0 k l0 true))))) else (none)) else (none))))) else (laws_FnFinds.j0 k l0 true)) else (laws_FnFinds.j0 k l0 true))) else (laws_FnFinds.j0 k l0 ((bt435.1.length : Int) != (bt423.1.length : Int))))))) = some true := H
 have A2 := Aside0.mk A20
 clear A20
 by_cases c3 : t422 = true
 ·subst c3
  have H1 : (some true) = some true := rfl
  clear H
  have H := H1
  clear H1; clear H
  go_enter Try.func4, Try.ntmps4
  go_wp2_with (first | ((with_reducible refine gate_callee (f := 13) rfl ?_); refine goesL_ (some 15) rfl rfl Try.func13 (by kernel_rfl) rfl #[.slice A0 l0.length c0] rfl (by (try simp only [sD, sE, sF]); first | done | rfl) ?_; (with_reducible refine (laws_big.calls _ _ l0 true _ ?side1 ?side2 A2.out).mono ?_); (case side1 => repeat (first | exact HR0.out | (with_reducible refine cA ?_ _) | (with_reducible refine cN ?_ _) | (with_reducible refine cD ?_))); (case side2 => exact HC0.out); rintro e w' ⟨rfl, ⟨nd, rfl⟩⟩; refine ⟨_, rfl, ?_⟩))
  go_ret
  exact ⟨by first | rfl | (simp [errW_none, errW_some] <;> rfl) | (simp [*, errW_none, errW_some] <;> rfl), by repeat (first | (with_reducible first | exact HB.out | apply bA | apply bN | apply bD) | exact HB.out)⟩
 ·replace c3 := Bool.eq_false_iff.mpr c3
  subst c3
  have H1 : ((spec_DrawPutFind.f k l0).bind fun bt423 => ((impl_PutFind.f k bt423.1 bt423.2.1 bt423.2.2.1 bt423.2.2.2.1 bt423.2.2.2.2.1 bt423.2.2.2.2.2.1 bt423.2.2.2.2.2.2.1 bt423.2.2.2.2.2.2.2.1 bt423.2.2.2.2.2.2.2.2).bind fun bt435 => (if bt435.2 = true then ((impl_AreFinds.f k bt435.1).bind fun t439 => (if t439 = true then (if (bt435.1.length : Int) = (wrap64 ((bt423.1.length : Int) + 1)) then ((impl_FindThing.f k bt435.1 bt423.2.1).bind fun t440 => (if t440 < 0 then (laws_FnFinds.j0 k l0 true) else ((impl_FindThing.f k bt435.1 bt423.2.1).bind fun t441 => (if 0 ≤ t441 then (if t441 < (bt435.1.length : Int) then (if ((!(((rd_T31 bt435.1 t441).f0.f0) == bt423.2.1) || (!(((rd_T31 bt435.1 t441).f0.f1) == bt423.2.2.1) || (!(((rd_T31 bt435.1 t441).f0.f2) == bt423.2.2.2.1) || (!(((rd_T31 bt435.1 t441).f0.f3) == bt423.2.2.2.2.1) || (!(((rd_T31 bt435.1 t441).f0.f4) == bt423.2.2.2.2.2.1)))))) || (!(((rd_T31 bt435.1 t441).f1) == bt423.2.2.2.2.2.2.1) || (!(((rd_T31 bt435.1 t441).f2) == bt423.2.2.2.2.2.2.2.1) || (!(((rd_T31 bt435.1 t441).f3) == bt423.2.2.2.2.2.2.2.2))))) = true then (laws_FnFinds.j0 k l0 true) else ((impl_FoundAt.f k bt435.1 bt423.2.2.2.2.2.2.1).bind fun t443 => ((laws_contains.f k t443 bt423.2.1).bind fun t446 => (if t446 = true then (laws_FnFinds.j0 k l0 false) else (laws_FnFinds.j0 k l0 true))))) else (none)) else (none))))) else (laws_FnFinds.j0 k l0 true)) else (laws_FnFinds.j0 k l0 true))) else (laws_FnFinds.j0 k l0 ((bt435.1.length : Int) != (bt423.1.length : Int)))))) = some true := by rw [if_neg (show ¬ (false = true) by decide)] at H; exact H
  clear H
  have H := H1
  clear H1
  replace H := obm H
  obtain ⟨⟨t423, t426, t427, t428, t429, t430, t431, t432, t433⟩, A40, H⟩ := H
  replace H : ((impl_PutFind.f k t423 t426 t427 t428 t429 t430 t431 t432 t433).bind fun bt435 => (if bt435.2 = true then ((impl_AreFinds.f k bt435.1).bind fun t439 => (if t439 = true then (if (bt435.1.length : Int) = (wrap64 ((t423.length : Int) + 1)) then ((impl_FindThing.f k bt435.1 t426).bind fun t440 => (if t440 < 0 then (laws_FnFinds.j0 k l0 true) else ((impl_FindThing.f k bt435.1 t426).bind fun t441 => (if 0 ≤ t441 then (if t441 < (bt435.1.length : Int) then (if ((!(((rd_T31 bt435.1 t441).f0.f0) == t426) || (!(((rd_T31 bt435.1 t441).f0.f1) == t427) || (!(((rd_T31 bt435.1 t441).f0.f2) == t428) || (!(((rd_T31 bt435.1 t441).f0.f3) == t429) || (!(((rd_T31 bt435.1 t441).f0.f4) == t430)))))) || (!(((rd_T31 bt435.1 t441).f1) == t431) || (!(((rd_T31 bt435.1 t441).f2) == t432) || (!(((rd_T31 bt435.1 t441).f3) == t433))))) = true then (laws_FnFinds.j0 k l0 true) else ((impl_FoundAt.f k bt435.1 t431).bind fun t443 => ((laws_contains.f k t443 t426).bind fun t446 => (if t446 = true then (laws_FnFinds.j0 k l0 false) else (laws_FnFinds.j0 k l0 true))))) else (none)) else (none))))) else (laws_FnFinds.j0 k l0 true)) else (laws_FnFinds.j0 k l0 true))) else (laws_FnFinds.j0 k l0 ((bt435.1.length : Int) != (t423.length : Int))))) = some true := H
  have A4 := Aside0.mk A40
  clear A40
  replace H := obm H
  obtain ⟨⟨t435, t438⟩, A50, H⟩ := H
  replace H : (if t438 = true then ((impl_AreFinds.f k t435).bind fun t439 => (if t439 = true then (if (t435.length : Int) = (wrap64 ((t423.length : Int) + 1)) then ((impl_FindThing.f k t435 t426).bind fun t440 => (if t440 < 0 then (laws_FnFinds.j0 k l0 true) else ((impl_FindThing.f k t435 t426).bind fun t441 => (if 0 ≤ t441 then (if t441 < (t435.length : Int) then (if ((!(((rd_T31 t435 t441).f0.f0) == t426) || (!(((rd_T31 t435 t441).f0.f1) == t427) || (!(((rd_T31 t435 t441).f0.f2) == t428) || (!(((rd_T31 t435 t441).f0.f3) == t429) || (!(((rd_T31 t435 t441).f0.f4) == t430)))))) || (!(((rd_T31 t435 t441).f1) == t431) || (!(((rd_T31 t435 t441).f2) == t432) || (!(((rd_T31 t435 t441).f3) == t433))))) = true then (laws_FnFinds.j0 k l0 true) else ((impl_FoundAt.f k t435 t431).bind fun t443 => ((laws_contains.f k t443 t426).bind fun t446 => (if t446 = true then (laws_FnFinds.j0 k l0 false) else (laws_FnFinds.j0 k l0 true))))) else (none)) else (none))))) else (laws_FnFinds.j0 k l0 true)) else (laws_FnFinds.j0 k l0 true))) else (laws_FnFinds.j0 k l0 ((t435.length : Int) != (t423.length : Int)))) = some true := H
  have A5 := Aside0.mk A50
  clear A50
  have HC6 := Aside0.mk H
  clear H
  go_enter Try.func4, Try.ntmps4
  go_upto_region 5 with (first | ((with_reducible refine gate_callee (f := 13) rfl ?_); refine goesL_ (some 15) rfl rfl Try.func13 (by kernel_rfl) rfl #[.slice A0 l0.length c0] rfl (by (try simp only [sD, sE, sF]); first | done | rfl) ?_; (with_reducible refine (laws_big.calls _ _ l0 false _ ?side1 ?side2 A2.out).mono ?_); (case side1 => repeat (first | exact HR0.out | (with_reducible refine cA ?_ _) | (with_reducible refine cN ?_ _) | (with_reducible refine cD ?_))); (case side2 => exact HC0.out); rintro e w' ⟨rfl, ⟨nd, rfl⟩⟩; refine ⟨_, rfl, ?_⟩) | ((with_reducible refine gate_callee (f := 14) rfl ?_); refine goesL_ (some 18) rfl rfl Try.func14 (by kernel_rfl) rfl #[.slice A0 l0.length c0] rfl (by (try simp only [sD, sE, sF]); first | done | rfl) ?_; (with_reducible refine (spec_DrawPutFind.calls k _ _ l0 t423 t426 t427 t428 t429 t430 t431 t432 t433 _ ?side1 ?side2 A4.out).mono ?_); (case side1 => repeat (first | exact HR0.out | (with_reducible refine cA ?_ _) | (with_reducible refine cN ?_ _) | (with_reducible refine cD ?_))); (case side2 => exact HC0.out); rintro e w7 ⟨v424, rfl, ho0, hb⟩; refine ⟨_, rfl, ?_⟩; have HO425 := Aside0.mk (Kd.R_lower ho0 (below_size (by repeat (first | (with_reducible first | exact HB.out | apply bA | apply bN | apply bD) | exact HB.out)))); replace HB := Aside0.mk (below_step (by repeat (first | (with_reducible first | exact HB.out | apply bA | apply bN | apply bD) | exact HB.out)) hb); (try clear hb); (try clear hb2); (try clear hk); (try clear hi); (try clear ho0)) | ((with_reducible refine gate_dst (N := 4) rfl ?_); (try (refine gate_guard (by rfl) ?_; dsimp only)); refine box_event ?hg (N := 4) ?hd (cs := #[.int .i64 0, .int .i64 0, .int .i64 0, .int .i64 0, .int .i64 0, .int .i64 0, .int .i64 0, .int .i64 0]) (t := 31) ?hr ?_; (case hd => rfl); (case hg => rfl); (case hr => first | (go_simp; done) | (go_simp; rfl)); intro gb434 hg w8 hbox hb; replace HO425 := Aside0.mk (Kd.R_below (Kd.R_elderB (by (with_reducible repeat (first | apply rA | apply rN | apply rD)); exact HO425.out) gb434 (Nat.le_of_eq hg.symm)) hb); have BK434 := Aside0.mk (hbox); have GW434 := Aside0.mk ((by rw [hg]; exact (below_size (by repeat (first | (with_reducible first | exact HB.out | apply bA | apply bN | apply bD) | exact HB.out))) : w.heap.size ≤ gb434)); have GE434 := Aside0.mk ((by rw [hg]; exact (below_size (by repeat (first | (with_reducible first | exact HB.out | apply bA | apply bN | apply bD) | exact HB.out))) : w.heap.size ≤ gb434)); replace HB := Aside0.mk (below_step (by repeat (first | (with_reducible first | exact HB.out | apply bA | apply bN | apply bD) | exact HB.out)) hb); clear hb hbox hg; have hcz9_0 : w8.cell? ⟨gb434, 0, none⟩ = some (.int .i64 0) := (blk_cell BK434.out 0).trans rfl; have hcz9_1 : w8.cell? ⟨gb434, 1, none⟩ = some (.int .i64 0) := (blk_cell BK434.out 1).trans rfl; have hcz9_2 : w8.cell? ⟨gb434, 2, none⟩ = some (.int .i64 0) := (blk_cell BK434.out 2).trans rfl; have hcz9_3 : w8.cell? ⟨gb434, 3, none⟩ = some (.int .i64 0) := (blk_cell BK434.out 3).trans rfl; have hcz9_4 : w8.cell? ⟨gb434, 4, none⟩ = some (.int .i64 0) := (blk_cell BK434.out 4).trans rfl; have hcz9_5 : w8.cell? ⟨gb434, 5, none⟩ = some (.int .i64 0) := (blk_cell BK434.out 5).trans rfl; have hcz9_6 : w8.cell? ⟨gb434, 6, none⟩ = some (.int .i64 0) := (blk_cell BK434.out 6).trans rfl; have hcz9_7 : w8.cell? ⟨gb434, 7, none⟩ = some (.int .i64 0) := (blk_cell BK434.out 7).trans rfl; have hfz9_0 := blk_frozen BK434.out 0; have hfz9_1 := blk_frozen BK434.out 1; have hfz9_2 := blk_frozen BK434.out 2; have hfz9_3 := blk_frozen BK434.out 3; have hfz9_4 := blk_frozen BK434.out 4; have hfz9_5 := blk_frozen BK434.out 5; have hfz9_6 := blk_frozen BK434.out 6; have hfz9_7 := blk_frozen BK434.out 7; obtain ⟨Ao10, co10, eo10⟩ := Kd.R_slice HO425.out; subst eo10) | ((with_reducible refine gate_callee (f := 15) rfl ?_); refine goesL_ (some 24) rfl rfl Try.func15 (by kernel_rfl) rfl #[.slice Ao10 t423.length co10, .agg #[.int .i64 t426, .int .i64 t427, .int .i64 t428, .int .i64 t429, .int .i64 t430, .int .i64 t431, .int .i64 t432, .int .i64 t433]] rfl (by (try simp only [sD, sE, sF]); first | done | rfl) ?_; (with_reducible refine (impl_PutFind.calls k _ _ t423 t426 t427 t428 t429 t430 t431 t432 t433 t435 t438 _ ?side1 ?side2 A5.out).mono ?_); (case side1 => refine (Kd.R_reads' (e := 31) (base := w.heap.size) (ok := fun k_ => (True ∧ k_ ≠ gb434)) (n := t423.length) (c := co10) ?_).2.2; exact (by (with_reducible repeat (first | apply rA | apply rN | apply rD)); exact (Kd.R_mono (Kd.R_far (p := ⟨gb434, 7, none⟩) (Kd.R_far (p := ⟨gb434, 6, none⟩) (Kd.R_far (p := ⟨gb434, 5, none⟩) (Kd.R_far (p := ⟨gb434, 4, none⟩) (Kd.R_far (p := ⟨gb434, 3, none⟩) (Kd.R_far (p := ⟨gb434, 2, none⟩) (Kd.R_far (p := ⟨gb434, 1, none⟩) (Kd.R_far (p := ⟨gb434, 0, none⟩) (Kd.R_mono HO425.out (fun k_ hk => (⟨hk, hk.2⟩ : _ ∧ k_ ≠ gb434))) (fun _ hk => hk.2) (.int .i64 t426)) (fun _ hk => hk.2) (.int .i64 t427)) (fun _ hk => hk.2) (.int .i64 t428)) (fun _ hk => hk.2) (.int .i64 t429)) (fun _ hk => hk.2) (.int .i64 t430)) (fun _ hk => hk.2) (.int .i64 t431)) (fun _ hk => hk.2) (.int .i64 t432)) (fun _ hk => hk.2) (.int .i64 t433)) (fun _ h_ => h_.1)))); (case side2 => exact (Kd.R_reads' HO425.out).2.1); rintro e w11 ⟨v436, rfl, ho0, hb⟩; refine ⟨_, rfl, ?_⟩; have HO437 := Aside0.mk (Kd.R_lower (Kd.R_newB (Kd.R_new' ho0 (Kd.R_lt (by (with_reducible repeat (first | apply rA | apply rN | apply rD)); exact (Kd.R_mono (Kd.R_far (p := ⟨gb434, 7, none⟩) (Kd.R_far (p := ⟨gb434, 6, none⟩) (Kd.R_far (p := ⟨gb434, 5, none⟩) (Kd.R_far (p := ⟨gb434, 4, none⟩) (Kd.R_far (p := ⟨gb434, 3, none⟩) (Kd.R_far (p := ⟨gb434, 2, none⟩) (Kd.R_far (p := ⟨gb434, 1, none⟩) (Kd.R_far (p := ⟨gb434, 0, none⟩) (Kd.R_mono HO425.out (fun k_ hk => (⟨hk, hk.2⟩ : _ ∧ k_ ≠ gb434))) (fun _ hk => hk.2) (.int .i64 t426)) (fun _ hk => hk.2) (.int .i64 t427)) (fun _ hk => hk.2) (.int .i64 t428)) (fun _ hk => hk.2) (.int .i64 t429)) (fun _ hk => hk.2) (.int .i64 t430)) (fun _ hk => hk.2) (.int .i64 t431)) (fun _ hk => hk.2) (.int .i64 t432)) (fun _ hk => hk.2) (.int .i64 t433)) (fun _ h_ => h_.1))))) (g := gb434) (o := .cells #[.int .i64 t426, .int .i64 t427, .int .i64 t428, .int .i64 t429, .int .i64 t430, .int .i64 t431, .int .i64 t432, .int .i64 t433] 31 (0, 0)) (by (with_reducible repeat (first | refine dN ?_ _ | refine dW ?_ | refine dA ?_ _)); refine blk_put (cs := #[.int .i64 t426, .int .i64 t427, .int .i64 t428, .int .i64 t429, .int .i64 t430, .int .i64 t431, .int .i64 t432, .int .i64 0]) ?_ 7 _ rfl; (with_reducible repeat (first | refine dN ?_ _ | refine dW ?_ | refine dA ?_ _)); refine blk_put (cs := #[.int .i64 t426, .int .i64 t427, .int .i64 t428, .int .i64 t429, .int .i64 t430, .int .i64 t431, .int .i64 0, .int .i64 0]) ?_ 6 _ rfl; (with_reducible repeat (first | refine dN ?_ _ | refine dW ?_ | refine dA ?_ _)); refine blk_put (cs := #[.int .i64 t426, .int .i64 t427, .int .i64 t428, .int .i64 t429, .int .i64 t430, .int .i64 0, .int .i64 0, .int .i64 0]) ?_ 5 _ rfl; (with_reducible repeat (first | refine dN ?_ _ | refine dW ?_ | refine dA ?_ _)); refine blk_put (cs := #[.int .i64 t426, .int .i64 t427, .int .i64 t428, .int .i64 t429, .int .i64 0, .int .i64 0, .int .i64 0, .int .i64 0]) ?_ 4 _ rfl; (with_reducible repeat (first | refine dN ?_ _ | refine dW ?_ | refine dA ?_ _)); refine blk_put (cs := #[.int .i64 t426, .int .i64 t427, .int .i64 t428, .int .i64 0, .int .i64 0, .int .i64 0, .int .i64 0, .int .i64 0]) ?_ 3 _ rfl; (with_reducible repeat (first | refine dN ?_ _ | refine dW ?_ | refine dA ?_ _)); refine blk_put (cs := #[.int .i64 t426, .int .i64 t427, .int .i64 0, .int .i64 0, .int .i64 0, .int .i64 0, .int .i64 0, .int .i64 0]) ?_ 2 _ rfl; (with_reducible repeat (first | refine dN ?_ _ | refine dW ?_ | refine dA ?_ _)); refine blk_put (cs := #[.int .i64 t426, .int .i64 0, .int .i64 0, .int .i64 0, .int .i64 0, .int .i64 0, .int .i64 0, .int .i64 0]) ?_ 1 _ rfl; (with_reducible repeat (first | refine dN ?_ _ | refine dW ?_ | refine dA ?_ _)); refine blk_put (cs := #[.int .i64 0, .int .i64 0, .int .i64 0, .int .i64 0, .int .i64 0, .int .i64 0, .int .i64 0, .int .i64 0]) ?_ 0 _ rfl; (with_reducible repeat (first | refine dN ?_ _ | refine dW ?_ | refine dA ?_ _)); exact BK434.out)) (below_size (by repeat (first | (with_reducible first | exact HB.out | apply bA | apply bN | apply bD | refine bS ?_ GE434.out) | exact HB.out)))); replace HO425 := Aside0.mk (Kd.R_elder' (by (with_reducible repeat (first | apply rA | apply rN | apply rD)); exact (Kd.R_mono (Kd.R_far (p := ⟨gb434, 7, none⟩) (Kd.R_far (p := ⟨gb434, 6, none⟩) (Kd.R_far (p := ⟨gb434, 5, none⟩) (Kd.R_far (p := ⟨gb434, 4, none⟩) (Kd.R_far (p := ⟨gb434, 3, none⟩) (Kd.R_far (p := ⟨gb434, 2, none⟩) (Kd.R_far (p := ⟨gb434, 1, none⟩) (Kd.R_far (p := ⟨gb434, 0, none⟩) (Kd.R_mono HO425.out (fun k_ hk => (⟨hk, hk.2⟩ : _ ∧ k_ ≠ gb434))) (fun _ hk => hk.2) (.int .i64 t426)) (fun _ hk => hk.2) (.int .i64 t427)) (fun _ hk => hk.2) (.int .i64 t428)) (fun _ hk => hk.2) (.int .i64 t429)) (fun _ hk => hk.2) (.int .i64 t430)) (fun _ hk => hk.2) (.int .i64 t431)) (fun _ hk => hk.2) (.int .i64 t432)) (fun _ hk => hk.2) (.int .i64 t433)) (fun _ h_ => h_.1))) (Kd.R_base ho0) hb); replace BK434 := Aside0.mk (blk_below (g := gb434) (o := .cells #[.int .i64 t426, .int .i64 t427, .int .i64 t428, .int .i64 t429, .int .i64 t430, .int .i64 t431, .int .i64 t432, .int .i64 t433] 31 (0, 0)) (by (with_reducible repeat (first | refine dN ?_ _ | refine dW ?_ | refine dA ?_ _)); refine blk_put (cs := #[.int .i64 t426, .int .i64 t427, .int .i64 t428, .int .i64 t429, .int .i64 t430, .int .i64 t431, .int .i64 t432, .int .i64 0]) ?_ 7 _ rfl; (with_reducible repeat (first | refine dN ?_ _ | refine dW ?_ | refine dA ?_ _)); refine blk_put (cs := #[.int .i64 t426, .int .i64 t427, .int .i64 t428, .int .i64 t429, .int .i64 t430, .int .i64 t431, .int .i64 0, .int .i64 0]) ?_ 6 _ rfl; (with_reducible repeat (first | refine dN ?_ _ | refine dW ?_ | refine dA ?_ _)); refine blk_put (cs := #[.int .i64 t426, .int .i64 t427, .int .i64 t428, .int .i64 t429, .int .i64 t430, .int .i64 0, .int .i64 0, .int .i64 0]) ?_ 5 _ rfl; (with_reducible repeat (first | refine dN ?_ _ | refine dW ?_ | refine dA ?_ _)); refine blk_put (cs := #[.int .i64 t426, .int .i64 t427, .int .i64 t428, .int .i64 t429, .int .i64 0, .int .i64 0, .int .i64 0, .int .i64 0]) ?_ 4 _ rfl; (with_reducible repeat (first | refine dN ?_ _ | refine dW ?_ | refine dA ?_ _)); refine blk_put (cs := #[.int .i64 t426, .int .i64 t427, .int .i64 t428, .int .i64 0, .int .i64 0, .int .i64 0, .int .i64 0, .int .i64 0]) ?_ 3 _ rfl; (with_reducible repeat (first | refine dN ?_ _ | refine dW ?_ | refine dA ?_ _)); refine blk_put (cs := #[.int .i64 t426, .int .i64 t427, .int .i64 0, .int .i64 0, .int .i64 0, .int .i64 0, .int .i64 0, .int .i64 0]) ?_ 2 _ rfl; (with_reducible repeat (first | refine dN ?_ _ | refine dW ?_ | refine dA ?_ _)); refine blk_put (cs := #[.int .i64 t426, .int .i64 0, .int .i64 0, .int .i64 0, .int .i64 0, .int .i64 0, .int .i64 0, .int .i64 0]) ?_ 1 _ rfl; (with_reducible repeat (first | refine dN ?_ _ | refine dW ?_ | refine dA ?_ _)); refine blk_put (cs := #[.int .i64 0, .int .i64 0, .int .i64 0, .int .i64 0, .int .i64 0, .int .i64 0, .int .i64 0, .int .i64 0]) ?_ 0 _ rfl; (with_reducible repeat (first | refine dN ?_ _ | refine dW ?_ | refine dA ?_ _)); exact BK434.out) hb); replace HB := Aside0.mk (below_step (by repeat (first | (with_reducible first | exact HB.out | apply bA | apply bN | apply bD | refine bS ?_ GE434.out) | exact HB.out)) hb); (try clear hb); (try clear hb2); (try clear hk); (try clear hi); (try clear ho0)))
  (try simp only [Act.put, sA, sB, sC])
  go_cut [82] (fun v82 wc => ∃ (kq : Nat) (x82_5 : Bool), v82 = .bool x82_5 ∧ Aside0 (laws_FnFinds.j0 kq l0 x82_5 = some true) ∧ Aside0 (kq ≤ k) ∧ Aside0 (wc.heap[gb434]? = some (.cells #[.int .i64 t426, .int .i64 t427, .int .i64 t428, .int .i64 t429, .int .i64 t430, .int .i64 t431, .int .i64 t432, .int .i64 t433] 31 (0, 0))) ∧ Aside0 (Below w.heap.size w wc))
  case first =>
   have H := HC6.out
   clear HC6
   by_cases c12 : t438 = true
   ·subst c12
    have H1 : ((impl_AreFinds.f k t435).bind fun t439 => (if t439 = true then (if (t435.length : Int) = (wrap64 ((t423.length : Int) + 1)) then ((impl_FindThing.f k t435 t426).bind fun t440 => (if t440 < 0 then (laws_FnFinds.j0 k l0 true) else ((impl_FindThing.f k t435 t426).bind fun t441 => (if 0 ≤ t441 then (if t441 < (t435.length : Int) then (if ((!(((rd_T31 t435 t441).f0.f0) == t426) || (!(((rd_T31 t435 t441).f0.f1) == t427) || (!(((rd_T31 t435 t441).f0.f2) == t428) || (!(((rd_T31 t435 t441).f0.f3) == t429) || (!(((rd_T31 t435 t441).f0.f4) == t430)))))) || (!(((rd_T31 t435 t441).f1) == t431) || (!(((rd_T31 t435 t441).f2) == t432) || (!(((rd_T31 t435 t441).f3) == t433))))) = true then (laws_FnFinds.j0 k l0 true) else ((impl_FoundAt.f k t435 t431).bind fun t443 => ((laws_contains.f k t443 t426).bind fun t446 => (if t446 = true then (laws_FnFinds.j0 k l0 false) else (laws_FnFinds.j0 k l0 true))))) else (none)) else (none))))) else (laws_FnFinds.j0 k l0 true)) else (laws_FnFinds.j0 k l0 true))) = some true := by rw [if_pos rfl] at H; exact H
    clear H
    have H := H1
    clear H1
    replace H := obm H
    obtain ⟨t439, A130, H⟩ := H
    replace H : (if t439 = true then (if (t435.length : Int) = (wrap64 ((t423.length : Int) + 1)) then ((impl_FindThing.f k t435 t426).bind fun t440 => (if t440 < 0 then (laws_FnFinds.j0 k l0 true) else ((impl_FindThing.f k t435 t426).bind fun t441 => (if 0 ≤ t441 then (if t441 < (t435.length : Int) then (if ((!(((rd_T31 t435 t441).f0.f0) == t426) || (!(((rd_T31 t435 t441).f0.f1) == t427) || (!(((rd_T31 t435 t441).f0.f2) == t428) || (!(((rd_T31 t435 t441).f0.f3) == t429) || (!(((rd_T31 t435 t441).f0.f4) == t430)))))) || (!(((rd_T31 t435 t441).f1) == t431) || (!(((rd_T31 t435 t441).f2) == t432) || (!(((rd_T31 t435 t441).f3) == t433))))) = true then (laws_FnFinds.j0 k l0 true) else ((impl_FoundAt.f k t435 t431).bind fun t443 => ((laws_contains.f k t443 t426).bind fun t446 => (if t446 = true then (laws_FnFinds.j0 k l0 false) else (laws_FnFinds.j0 k l0 true))))) else (none)) else (none))))) else (laws_FnFinds.j0 k l0 true)) else (laws_FnFinds.j0 k l0 true)) = some true := H
    have A13 := Aside0.mk A130
    clear A130
    by_cases c14 : t439 = true
    ·subst c14
     have H1 : (if (t435.length : Int) = (wrap64 ((t423.length : Int) + 1)) then ((impl_FindThing.f k t435 t426).bind fun t440 => (if t440 < 0 then (laws_FnFinds.j0 k l0 true) else ((impl_FindThing.f k t435 t426).bind fun t441 => (if 0 ≤ t441 then (if t441 < (t435.length : Int) then (if ((!(((rd_T31 t435 t441).f0.f0) == t426) || (!(((rd_T31 t435 t441).f0.f1) == t427) || (!(((rd_T31 t435 t441).f0.f2) == t428) || (!(((rd_T31 t435 t441).f0.f3) == t429) || (!(((rd_T31 t435 t441).f0.f4) == t430)))))) || (!(((rd_T31 t435 t441).f1) == t431) || (!(((rd_T31 t435 t441).f2) == t432) || (!(((rd_T31 t435 t441).f3) == t433))))) = true then (laws_FnFinds.j0 k l0 true) else ((impl_FoundAt.f k t435 t431).bind fun t443 => ((laws_contains.f k t443 t426).bind fun t446 => (if t446 = true then (laws_FnFinds.j0 k l0 false) else (laws_FnFinds.j0 k l0 true))))) else (none)) else (none))))) else (laws_FnFinds.j0 k l0 true)) = some true := by rw [if_pos rfl] at H; exact H
     clear H
     have H := H1
     clear H1
     by_cases c15 : (t435.length : Int) = (wrap64 ((t423.length : Int) + 1))
     ·rw [if_pos c15] at H
      have c15b0 : ((t435.length : Int) == (wrap64 ((t423.length : Int) + 1))) = true := beq_iff_eq.mpr c15
      have c15b1 : ((t435.length : Int) != (wrap64 ((t423.length : Int) + 1))) = false := bne_eq_false_iff_eq.mpr c15
      clear c15
      (first | rw [c15b0] | (simp only [i64_w, i32_w]; rw [c15b0]) | skip)
      replace H := obm H
      obtain ⟨t440, A160, H⟩ := H
      replace H : (if t440 < 0 then (laws_FnFinds.j0 k l0 true) else ((impl_FindThing.f k t435 t426).bind fun t441 => (if 0 ≤ t441 then (if t441 < (t435.length : Int) then (if ((!(((rd_T31 t435 t441).f0.f0) == t426) || (!(((rd_T31 t435 t441).f0.f1) == t427) || (!(((rd_T31 t435 t441).f0.f2) == t428) || (!(((rd_T31 t435 t441).f0.f3) == t429) || (!(((rd_T31 t435 t441).f0.f4) == t430)))))) || (!(((rd_T31 t435 t441).f1) == t431) || (!(((rd_T31 t435 t441).f2) == t432) || (!(((rd_T31 t435 t441).f3) == t433))))) = true then (laws_FnFinds.j0 k l0 true) else ((impl_FoundAt.f k t435 t431).bind fun t443 => ((laws_contains.f k t443 t426).bind fun t446 => (if t446 = true then (laws_FnFinds.j0 k l0 false) else (laws_FnFinds.j0 k l0 true))))) else (none)) else (none)))) = some true := H
      have A16 := Aside0.mk A160
      clear A160
      by_cases c17 : t440 < 0
      ·rw [if_pos c17] at H
       have c17b0 : decide (t440 < 0) = true := decide_eq_true c17
       clear c17
       exact absurd H (laws_FnFinds.j0_no _ _)
      ·rw [if_neg c17] at H
       have c17b0 : decide (t440 < 0) = false := decide_eq_false c17
       clear c17
       replace H := obm H
       obtain ⟨t441, A220, H⟩ := H
       replace H : (if 0 ≤ t441 then (if t441 < (t435.length : Int) then (if ((!(((rd_T31 t435 t441).f0.f0) == t426) || (!(((rd_T31 t435 t441).f0.f1) == t427) || (!(((rd_T31 t435 t441).f0.f2) == t428) || (!(((rd_T31 t435 t441).f0.f3) == t429) || (!(((rd_T31 t435 t441).f0.f4) == t430)))))) || (!(((rd_T31 t435 t441).f1) == t431) || (!(((rd_T31 t435 t441).f2) == t432) || (!(((rd_T31 t435 t441).f3) == t433))))) = true then (laws_FnFinds.j0 k l0 true) else ((impl_FoundAt.f k t435 t431).bind fun t443 => ((laws_contains.f k t443 t426).bind fun t446 => (if t446 = true then (laws_FnFinds.j0 k l0 false) else (laws_FnFinds.j0 k l0 true))))) else (none)) else (none)) = some true := H
       have A22 := Aside0.mk A220
       clear A220
       by_cases c23 : 0 ≤ t441
       ·rw [if_pos c23] at H
        have c23b0 : decide (0 ≤ t441) = true := decide_eq_true c23
        clear c23
        by_cases c24 : t441 < (t435.length : Int)
        ·rw [if_pos c24] at H
         have c24b0 : decide (t441 < (t435.length : Int)) = true := decide_eq_true c24
         clear c24
         by_cases c25 : ((!(((rd_T31 t435 t441).f0.f0) == t426) || (!(((rd_T31 t435 t441).f0.f1) == t427) || (!(((rd_T31 t435 t441).f0.f2) == t428) || (!(((rd_T31 t435 t441).f0.f3) == t429) || (!(((rd_T31 t435 t441).f0.f4) == t430)))))) || (!(((rd_T31 t435 t441).f1) == t431) || (!(((rd_T31 t435 t441).f2) == t432) || (!(((rd_T31 t435 t441).f3) == t433))))) = true
         ·rw [if_pos c25] at H
          have c25b0 : ((!(((rd_T31 t435 t441).f0.f0) == t426) || (!(((rd_T31 t435 t441).f0.f1) == t427) || (!(((rd_T31 t435 t441).f0.f2) == t428) || (!(((rd_T31 t435 t441).f0.f3) == t429) || (!(((rd_T31 t435 t441).f0.f4) == t430)))))) || (!(((rd_T31 t435 t441).f1) == t431) || (!(((rd_T31 t435 t441).f2) == t432) || (!(((rd_T31 t435 t441).f3) == t433))))) = true := c25
          clear c25
          exact absurd H (laws_FnFinds.j0_no _ _)
         ·rw [if_neg c25] at H
          have c25b0 : ((!(((rd_T31 t435 t441).f0.f0) == t426) || (!(((rd_T31 t435 t441).f0.f1) == t427) || (!(((rd_T31 t435 t441).f0.f2) == t428) || (!(((rd_T31 t435 t441).f0.f3) == t429) || (!(((rd_T31 t435 t441).f0.f4) == t430)))))) || (!(((rd_T31 t435 t441).f1) == t431) || (!(((rd_T31 t435 t441).f2) == t432) || (!(((rd_T31 t435 t441).f3) == t433))))) = false := by simpa using c25
          have c25e := Aside0.mk (show ((rd_T31 t435 t441).f0.f0 = t426 ∧ (rd_T31 t435 t441).f0.f1 = t427 ∧ (rd_T31 t435 t441).f0.f2 = t428 ∧ (rd_T31 t435 t441).f0.f3 = t429 ∧ (rd_T31 t435 t441).f0.f4 = t430) ∧ (rd_T31 t435 t441).f1 = t431 ∧ (rd_T31 t435 t441).f2 = t432 ∧ (rd_T31 t435 t441).f3 = t433 by simpa using c25b0)
          clear c25
          replace H := obm H
          obtain ⟨t443, A310, H⟩ := H
          replace H : ((laws_contains.f k t443 t426).bind fun t446 => (if t446 = true then (laws_FnFinds.j0 k l0 false) else (laws_FnFinds.j0 k l0 true))) = some true := H
          have A31 := Aside0.mk A310
          clear A310
          replace H := obm H
          obtain ⟨t446, A320, H⟩ := H
          replace H : (if t446 = true then (laws_FnFinds.j0 k l0 false) else (laws_FnFinds.j0 k l0 true)) = some true := H
          have A32 := Aside0.mk A320
          clear A320
          by_cases c33 : t446 = true
          ·subst c33
           have H1 : (laws_FnFinds.j0 k l0 false) = some true := by rw [if_pos rfl] at H; exact H
           clear H
           have H := H1
           clear H1
           have H' := Aside0.mk H
           clear H
           try go_wp2
           replace HO425 := Aside0.mk (Kd.R_drew HO425.out); replace HO437 := Aside0.mk (Kd.R_drew HO437.out); replace BK434 := Aside0.mk (blk_drew BK434.out); replace HB := Aside0.mk (below_drew1 HB.out)
           obtain ⟨Ao35, co35, eo35⟩ := Kd.R_slice HO437.out
           (first | subst eo35 | (injection eo35 with f1_ f2_ f3_; have f4_ := f1_.symm; have f5_ := f3_.symm; clear f1_ f2_ f3_; subst f4_; subst f5_))
           have p442 : 0 ≤ (t441 : Int) := of_decide_eq_true (by first | (with_reducible assumption) | assumption)
           have q442 : t441 < (t435.length : Int) := of_decide_eq_true (by first | (with_reducible assumption) | assumption)
           obtain ⟨ad442, e442, hx442_0, hx442_1, hx442_2, hx442_3, hx442_4, hx442_5, hx442_6, hx442_7⟩ := at_T31 (Kd.R_reads' HO437.out).2.2 t441 p442 q442
           cases e442
           replace p442 := eq_true p442
           replace q442 := eq_true q442
           refine start_ (n := 56) (S := fun w' => w'.cell? ⟨gb434, 0, none⟩ = some (.int .i64 t426) ∧ w'.cell? ⟨gb434, 1, none⟩ = some (.int .i64 t427) ∧ w'.cell? ⟨gb434, 2, none⟩ = some (.int .i64 t428) ∧ w'.cell? ⟨gb434, 3, none⟩ = some (.int .i64 t429) ∧ w'.cell? ⟨gb434, 4, none⟩ = some (.int .i64 t430) ∧ w'.cell? ⟨gb434, 5, none⟩ = some (.int .i64 t431) ∧ w'.cell? ⟨gb434, 6, none⟩ = some (.int .i64 t432) ∧ w'.cell? ⟨gb434, 7, none⟩ = some (.int .i64 t433) ∧ w'.cell? (ad442.add ((t441).toNat * 8)) = some (.int .i64 ((rd_T31 t435 t441).f0.f0)) ∧ w'.cell? ⟨(ad442.add ((t441).toNat * 8)).block, (ad442.add ((t441).toNat * 8)).off + 1, none⟩ = some (.int .i64 ((rd_T31 t435 t441).f0.f1)) ∧ w'.cell? ⟨(ad442.add ((t441).toNat * 8)).block, (ad442.add ((t441).toNat * 8)).off + 2, none⟩ = some (.int .i64 ((rd_T31 t435 t441).f0.f2)) ∧ w'.cell? ⟨(ad442.add ((t441).toNat * 8)).block, (ad442.add ((t441).toNat * 8)).off + 3, none⟩ = some (.int .i64 ((rd_T31 t435 t441).f0.f3)) ∧ w'.cell? ⟨(ad442.add ((t441).toNat * 8)).block, (ad442.add ((t441).toNat * 8)).off + 4, none⟩ = some (.int .i64 ((rd_T31 t435 t441).f0.f4)) ∧ w'.cell? ⟨(ad442.add ((t441).toNat * 8)).block, (ad442.add ((t441).toNat * 8)).off + 5, none⟩ = some (.int .i64 ((rd_T31 t435 t441).f1)) ∧ w'.cell? ⟨(ad442.add ((t441).toNat * 8)).block, (ad442.add ((t441).toNat * 8)).off + 6, none⟩ = some (.int .i64 ((rd_T31 t435 t441).f2)) ∧ w'.cell? ⟨(ad442.add ((t441).toNat * 8)).block, (ad442.add ((t441).toNat * 8)).off + 7, none⟩ = some (.int .i64 ((rd_T31 t435 t441).f3))) (ds := []) qq27 (by kernel_rfl) rfl rfl ⟨(blk_cell BK434.out 0).trans rfl, (blk_cell BK434.out 1).trans rfl, (blk_cell BK434.out 2).trans rfl, (blk_cell BK434.out 3).trans rfl, (blk_cell BK434.out 4).trans rfl, (blk_cell BK434.out 5).trans rfl, (blk_cell BK434.out 6).trans rfl, (blk_cell BK434.out 7).trans rfl, hx442_0, hx442_1, hx442_2, hx442_3, hx442_4, hx442_5, hx442_6, hx442_7⟩ (fun hHeld => ?_); refine with_tabW laws_FnFinds.tab5 laws_FnFinds.bits5 (fun HT_ HW_ => ?_)
           generalize w11.drew = w34 at HO425 HO437 BK434 HB hx442_0 hx442_1 hx442_2 hx442_3 hx442_4 hx442_5 hx442_6 hx442_7 hHeld ⊢
           refine pure_ (i := 0) (N := some 27) (v := ?_) (a' := ?_) qq28 rfl rfl (any_of HT_.out (by kernel_rfl)) (fun _ _ _ h => h) (Or.inl ⟨by rfl, ?_⟩) ?_ ?_
           rotate_left; focus (intro w'; go_simp; with_reducible rfl)
           rotate_left; focus (simp only [Act.put, sA, sB, sC, i64_w, i32_w]; rfl)
           refine pure_ (i := 1) (N := some 28) (v := ?_) (a' := ?_) qq29 rfl rfl (any_of HT_.out (by kernel_rfl)) (fun _ _ _ h => h) (Or.inl ⟨by rfl, ?_⟩) ?_ ?_
           rotate_left; focus (intro w'; go_simp; with_reducible rfl)
           rotate_left; focus (simp only [Act.put, sA, sB, sC, i64_w, i32_w]; rfl)
           refine pure_ (i := 2) (N := some 29) (v := ?_) (a' := ?_) qq30 rfl rfl (any_of HT_.out (by kernel_rfl)) (fun _ _ _ h => h) (Or.inl ⟨by rfl, ?_⟩) ?_ ?_
           rotate_left; focus (intro w'; go_simp; with_reducible rfl)
           rotate_left; focus (simp only [Act.put, sA, sB, sC, i64_w, i32_w]; rfl)
           refine one_ (i := 3) (N := some 30) qq31 rfl rfl (one_of HT_.out (by kernel_rfl)) (by decide) (fun K hK => ?_)
           refine goes_ Try.func16 (by kernel_rfl) rfl #[.slice (some ad442) t435.length co35] (by rfl) rfl rfl (by (try simp only [sD, sE, sF]); first | done | rfl) ?_
           with_reducible refine (impl_AreFinds.calls k _ _ t435 true _ ?side1 ?side2 A13.out).mono ?_
           (case side1 => repeat (first | exact (Kd.R_reads' HO437.out).2.2 | (with_reducible refine cA ?_ _) | (with_reducible refine cN ?_ _) | (with_reducible refine cD ?_)))
           (case side2 => exact (Kd.R_reads' HO437.out).2.1)
           rintro e w36 ⟨rfl, hb⟩
           have HS8_ := (hb.cell (World.block_lt_of_cell? _ _ (hHeld.2.2.2.2.2.2.2.2.1))).trans (hHeld.2.2.2.2.2.2.2.2.1)
           have HS9_ := (hb.cell (World.block_lt_of_cell? _ _ (hHeld.2.2.2.2.2.2.2.2.2.1))).trans (hHeld.2.2.2.2.2.2.2.2.2.1)
           have HS10_ := (hb.cell (World.block_lt_of_cell? _ _ (hHeld.2.2.2.2.2.2.2.2.2.2.1))).trans (hHeld.2.2.2.2.2.2.2.2.2.2.1)
           have HS11_ := (hb.cell (World.block_lt_of_cell? _ _ (hHeld.2.2.2.2.2.2.2.2.2.2.2.1))).trans (hHeld.2.2.2.2.2.2.2.2.2.2.2.1)
           have HS12_ := (hb.cell (World.block_lt_of_cell? _ _ (hHeld.2.2.2.2.2.2.2.2.2.2.2.2.1))).trans (hHeld.2.2.2.2.2.2.2.2.2.2.2.2.1)
           have HS13_ := (hb.cell (World.block_lt_of_cell? _ _ (hHeld.2.2.2.2.2.2.2.2.2.2.2.2.2.1))).trans (hHeld.2.2.2.2.2.2.2.2.2.2.2.2.2.1)
           have HS14_ := (hb.cell (World.block_lt_of_cell? _ _ (hHeld.2.2.2.2.2.2.2.2.2.2.2.2.2.2.1))).trans (hHeld.2.2.2.2.2.2.2.2.2.2.2.2.2.2.1)
           have HS15_ := (hb.cell (World.block_lt_of_cell? _ _ (hHeld.2.2.2.2.2.2.2.2.2.2.2.2.2.2.2))).trans (hHeld.2.2.2.2.2.2.2.2.2.2.2.2.2.2.2)
           refine ⟨_, rfl, ?_⟩
           replace HO425 := Aside0.mk (Kd.R_below (by (with_reducible repeat (first | apply rA | apply rN | apply rD)); exact HO425.out) hb)
           replace HO437 := Aside0.mk (Kd.R_below (by (with_reducible repeat (first | apply rA | apply rN | apply rD)); exact HO437.out) hb); replace BK434 := qcb hb BK434
           replace HB := Aside0.mk (below_step (by repeat (first | (with_reducible first | exact HB.out | apply bA | apply bN | apply bD | refine bS ?_ GE434.out) | exact HB.out)) hb); (try clear hb); (try clear hb2); (try clear hk); (try clear hi)
           refine hK.out _ _ ⟨(blk_cell BK434.out 0).trans rfl, (blk_cell BK434.out 1).trans rfl, (blk_cell BK434.out 2).trans rfl, (blk_cell BK434.out 3).trans rfl, (blk_cell BK434.out 4).trans rfl, (blk_cell BK434.out 5).trans rfl, (blk_cell BK434.out 6).trans rfl, (blk_cell BK434.out 7).trans rfl, HS8_, HS9_, HS10_, HS11_, HS12_, HS13_, HS14_, HS15_⟩ (fun hHeld => ?_)
           clear hK K
           refine norm_ (a' := ?_) ?_ ?_
           rotate_left; focus (show Act.put _ (some 30) _ = _; simp only [Act.put, sA, sB, sC, i64_w, i32_w]; rfl)
           refine pure_ (i := 4) (N := some 31) (v := ?_) (a' := ?_) qq32 rfl rfl (any_of HT_.out (by kernel_rfl)) (fun _ _ _ h => h) (Or.inl ⟨by rfl, ?_⟩) ?_ ?_
           rotate_left; focus (intro w'; go_simp; with_reducible rfl)
           rotate_left; focus (simp only [Act.put, sA, sB, sC, i64_w, i32_w]; rfl)
           refine pure_ (i := 5) (N := some 32) (v := ?_) (a' := ?_) qq33 rfl rfl (any_of HT_.out (by kernel_rfl)) (fun _ _ _ h => h) (Or.inl ⟨by rfl, ?_⟩) ?_ ?_
           rotate_left; focus (intro w'; go_simp; with_reducible rfl)
           rotate_left; focus (simp only [Act.put, sA, sB, sC, i64_w, i32_w]; rfl)
           refine pure_ (i := 6) (N := some 33) (v := ?_) (a' := ?_) qq34 rfl rfl (any_of HT_.out (by kernel_rfl)) (fun _ _ _ h => h) (Or.inl ⟨by rfl, ?_⟩) ?_ ?_
           rotate_left; focus (intro w'; go_simp; with_reducible rfl)
           rotate_left; focus (simp only [Act.put, sA, sB, sC, i64_w, i32_w]; rfl)
           refine pure_ (i := 7) (N := some 34) (v := ?_) (a' := ?_) qq35 rfl rfl (any_of HT_.out (by kernel_rfl)) (fun _ _ _ h => h) (Or.inl ⟨by rfl, ?_⟩) ?_ ?_
           rotate_left; focus (intro w'; go_simp; with_reducible rfl)
           rotate_left; focus (simp only [Act.put, sA, sB, sC, i64_w, i32_w]; rfl)
           refine pure_ (i := 8) (N := some 35) (v := ?_) (a' := ?_) qq36 rfl rfl (any_of HT_.out (by kernel_rfl)) (fun _ _ _ h => h) (Or.inl ⟨by rfl, ?_⟩) ?_ ?_
           rotate_left; focus (intro w'; go_simp; with_reducible rfl)
           rotate_left; focus (simp only [Act.put, sA, sB, sC, i64_w, i32_w]; rfl)
           refine pure_ (i := 9) (N := some 36) (v := ?_) (a' := ?_) qq37 rfl rfl (any_of HT_.out (by kernel_rfl)) (fun _ _ _ h => h) (Or.inl ⟨by rfl, ?_⟩) ?_ ?_
           rotate_left; focus (intro w'; go_simp; with_reducible rfl)
           rotate_left; focus (simp only [Act.put, sA, sB, sC, i64_w, i32_w]; rfl)
           refine pure_ (i := 10) (N := some 37) (v := ?_) (a' := ?_) qq38 rfl rfl (any_of HT_.out (by kernel_rfl)) (fun _ _ _ h => h) (Or.inl ⟨by rfl, ?_⟩) ?_ ?_
           rotate_left; focus (intro w'; go_simp; with_reducible rfl)
           rotate_left; focus (simp only [Act.put, sA, sB, sC, i64_w, i32_w]; rfl)
           refine pure_ (i := 11) (N := some 38) (v := ?_) (a' := ?_) qq39 rfl rfl (any_of HT_.out (by kernel_rfl)) (fun _ _ _ h => h) (Or.inl ⟨by rfl, ?_⟩) ?_ ?_
           rotate_left; focus (intro w'; go_simp; with_reducible rfl)
           rotate_left; focus (simp only [Act.put, sA, sB, sC, i64_w, i32_w]; rfl)
           refine pure_ (i := 12) (N := some 39) (v := ?_) (a' := ?_) qq40 rfl rfl (any_of HT_.out (by kernel_rfl)) (fun _ _ _ h => h) (Or.inl ⟨by rfl, ?_⟩) ?_ ?_
           rotate_left; focus (intro w'; go_simp; with_reducible rfl)
           rotate_left; focus (simp only [Act.put, sA, sB, sC, i64_w, i32_w]; rfl)
           refine pure_ (i := 13) (N := some 40) (v := ?_) (a' := ?_) qq41 rfl rfl (any_of HT_.out (by kernel_rfl)) (fun _ _ _ h => h) (Or.inl ⟨by rfl, ?_⟩) ?_ ?_
           rotate_left; focus (intro w'; go_simp; with_reducible rfl)
           rotate_left; focus (simp only [Act.put, sA, sB, sC, i64_w, i32_w]; rfl)
           refine pure_ (i := 14) (N := some 41) (v := ?_) (a' := ?_) qq42 rfl rfl (any_of HT_.out (by kernel_rfl)) (fun _ _ _ h => h) (Or.inl ⟨by rfl, ?_⟩) ?_ ?_
           rotate_left; focus (intro w'; go_simp; with_reducible rfl)
           rotate_left; focus (simp only [Act.put, sA, sB, sC, i64_w, i32_w]; rfl)
           refine pure_ (i := 15) (N := some 42) (v := ?_) (a' := ?_) qq43 rfl rfl (any_of HT_.out (by kernel_rfl)) (fun _ _ _ h => h) (Or.inl ⟨by rfl, ?_⟩) ?_ ?_
           rotate_left; focus (intro w'; go_simp; with_reducible rfl)
           rotate_left; focus (simp only [Act.put, sA, sB, sC, i64_w, i32_w]; rfl)
           refine pure_ (i := 16) (N := some 43) (v := ?_) (a' := ?_) qq44 rfl rfl (any_of HT_.out (by kernel_rfl)) (fun _ _ _ h => h) (Or.inl ⟨by rfl, ?_⟩) ?_ ?_
           rotate_left; focus (intro w'; go_simp; with_reducible rfl)
           rotate_left; focus (simp only [Act.put, sA, sB, sC, i64_w, i32_w]; rfl)
           refine take_ (i := 17) (N := some 44) (v := ?_) (a' := ?_) qq45 rfl rfl (take_ofW HT_.out HW_.out (by kernel_rfl)) (fun _ _ _ h => h) (Or.inl ⟨by rfl, ?_⟩) hHeld ?_ ?_
           rotate_left; focus (rintro w' ⟨s0, s1, s2, s3, s4, s5, s6, s7, s8, s9, s10, s11, s12, s13, s14, s15⟩; go_simp; with_reducible rfl)
           rotate_left; focus (simp only [Act.put, sA, sB, sC, i64_w, i32_w]; rfl)
           refine one_ (i := 18) (N := some 45) qq46 rfl rfl (one_of HT_.out (by kernel_rfl)) (by decide) (fun K hK => ?_)
           refine goes_ Try.func17 (by kernel_rfl) rfl #[.slice (some ad442) t435.length co35, .int .i64 t426] (by rfl) rfl rfl (by (try simp only [sD, sE, sF]); first | done | rfl) ?_
           with_reducible refine (impl_FindThing.calls k _ _ t435 t426 t440 _ ?side1 ?side2 A16.out).mono ?_
           (case side1 => repeat (first | exact (Kd.R_reads' HO437.out).2.2 | (with_reducible refine cA ?_ _) | (with_reducible refine cN ?_ _) | (with_reducible refine cD ?_)))
           (case side2 => exact (Kd.R_reads' HO437.out).2.1)
           rintro e w37 ⟨rfl, hb⟩
           have HS8_ := (hb.cell (World.block_lt_of_cell? _ _ (hHeld.2.2.2.2.2.2.2.2.1))).trans (hHeld.2.2.2.2.2.2.2.2.1)
           have HS9_ := (hb.cell (World.block_lt_of_cell? _ _ (hHeld.2.2.2.2.2.2.2.2.2.1))).trans (hHeld.2.2.2.2.2.2.2.2.2.1)
           have HS10_ := (hb.cell (World.block_lt_of_cell? _ _ (hHeld.2.2.2.2.2.2.2.2.2.2.1))).trans (hHeld.2.2.2.2.2.2.2.2.2.2.1)
           have HS11_ := (hb.cell (World.block_lt_of_cell? _ _ (hHeld.2.2.2.2.2.2.2.2.2.2.2.1))).trans (hHeld.2.2.2.2.2.2.2.2.2.2.2.1)
           have HS12_ := (hb.cell (World.block_lt_of_cell? _ _ (hHeld.2.2.2.2.2.2.2.2.2.2.2.2.1))).trans (hHeld.2.2.2.2.2.2.2.2.2.2.2.2.1)
           have HS13_ := (hb.cell (World.block_lt_of_cell? _ _ (hHeld.2.2.2.2.2.2.2.2.2.2.2.2.2.1))).trans (hHeld.2.2.2.2.2.2.2.2.2.2.2.2.2.1)
           have HS14_ := (hb.cell (World.block_lt_of_cell? _ _ (hHeld.2.2.2.2.2.2.2.2.2.2.2.2.2.2.1))).trans (hHeld.2.2.2.2.2.2.2.2.2.2.2.2.2.2.1)
           have HS15_ := (hb.cell (World.block_lt_of_cell? _ _ (hHeld.2.2.2.2.2.2.2.2.2.2.2.2.2.2.2))).trans (hHeld.2.2.2.2.2.2.2.2.2.2.2.2.2.2.2)
           refine ⟨_, rfl, ?_⟩
           replace HO425 := Aside0.mk (Kd.R_below (by (with_reducible repeat (first | apply rA | apply rN | apply rD)); exact HO425.out) hb)
           replace HO437 := Aside0.mk (Kd.R_below (by (with_reducible repeat (first | apply rA | apply rN | apply rD)); exact HO437.out) hb); replace BK434 := qcb hb BK434
           replace HB := Aside0.mk (below_step (by repeat (first | (with_reducible first | exact HB.out | apply bA | apply bN | apply bD | refine bS ?_ GE434.out) | exact HB.out)) hb); (try clear hb); (try clear hb2); (try clear hk); (try clear hi)
           refine hK.out _ _ ⟨(blk_cell BK434.out 0).trans rfl, (blk_cell BK434.out 1).trans rfl, (blk_cell BK434.out 2).trans rfl, (blk_cell BK434.out 3).trans rfl, (blk_cell BK434.out 4).trans rfl, (blk_cell BK434.out 5).trans rfl, (blk_cell BK434.out 6).trans rfl, (blk_cell BK434.out 7).trans rfl, HS8_, HS9_, HS10_, HS11_, HS12_, HS13_, HS14_, HS15_⟩ (fun hHeld => ?_)
           clear hK K
           refine norm_ (a' := ?_) ?_ ?_
           rotate_left; focus (show Act.put _ (some 45) _ = _; simp only [Act.put, sA, sB, sC, i64_w, i32_w]; rfl)
           refine pure_ (i := 19) (N := some 46) (v := ?_) (a' := ?_) qq47 rfl rfl (any_of HT_.out (by kernel_rfl)) (fun _ _ _ h => h) (Or.inl ⟨by rfl, ?_⟩) ?_ ?_
           rotate_left; focus (intro w'; go_simp; with_reducible rfl)
           rotate_left; focus (simp only [Act.put, sA, sB, sC, i64_w, i32_w]; rfl)
           refine pure_ (i := 20) (N := some 47) (v := ?_) (a' := ?_) qq48 rfl rfl (any_of HT_.out (by kernel_rfl)) (fun _ _ _ h => h) (Or.inl ⟨by rfl, ?_⟩) ?_ ?_
           rotate_left; focus (intro w'; go_simp; with_reducible rfl)
           rotate_left; focus (simp only [Act.put, sA, sB, sC, i64_w, i32_w]; rfl)
           refine pure_ (i := 21) (N := some 48) (v := ?_) (a' := ?_) qq49 rfl rfl (any_of HT_.out (by kernel_rfl)) (fun _ _ _ h => h) (Or.inl ⟨by rfl, ?_⟩) ?_ ?_
           rotate_left; focus (intro w'; go_simp; with_reducible rfl)
           rotate_left; focus (simp only [Act.put, sA, sB, sC, i64_w, i32_w]; rfl)
           refine pure_ (i := 22) (N := some 49) (v := ?_) (a' := ?_) qq50 rfl rfl (any_of HT_.out (by kernel_rfl)) (fun _ _ _ h => h) (Or.inl ⟨by rfl, ?_⟩) ?_ ?_
           rotate_left; focus (intro w'; go_simp; with_reducible rfl)
           rotate_left; focus (simp only [Act.put, sA, sB, sC, i64_w, i32_w]; rfl)
           refine pure_ (i := 23) (N := some 50) (v := ?_) (a' := ?_) qq51 rfl rfl (any_of HT_.out (by kernel_rfl)) (fun _ _ _ h => h) (Or.inl ⟨by rfl, ?_⟩) ?_ ?_
           rotate_left; focus (intro w'; go_simp; with_reducible rfl)
           rotate_left; focus (simp only [Act.put, sA, sB, sC, i64_w, i32_w]; rfl)
           refine pure_ (i := 24) (N := some 51) (v := ?_) (a' := ?_) qq52 rfl rfl (any_of HT_.out (by kernel_rfl)) (fun _ _ _ h => h) (Or.inl ⟨by rfl, ?_⟩) ?_ ?_
           rotate_left; focus (intro w'; go_simp; with_reducible rfl)
           rotate_left; focus (simp only [Act.put, sA, sB, sC, i64_w, i32_w]; rfl)
           refine pure_ (i := 25) (N := some 52) (v := ?_) (a' := ?_) qq53 rfl rfl (any_of HT_.out (by kernel_rfl)) (fun _ _ _ h => h) (Or.inl ⟨by rfl, ?_⟩) ?_ ?_
           rotate_left; focus (intro w'; go_simp; with_reducible rfl)
           rotate_left; focus (simp only [Act.put, sA, sB, sC, i64_w, i32_w]; rfl)
           refine take_ (i := 26) (N := some 53) (v := ?_) (a' := ?_) qq54 rfl rfl (take_ofW HT_.out HW_.out (by kernel_rfl)) (fun _ _ _ h => h) (Or.inl ⟨by rfl, ?_⟩) hHeld ?_ ?_
           rotate_left; focus (rintro w' ⟨s0, s1, s2, s3, s4, s5, s6, s7, s8, s9, s10, s11, s12, s13, s14, s15⟩; go_simp; with_reducible rfl)
           rotate_left; focus (simp only [Act.put, sA, sB, sC, i64_w, i32_w]; rfl)
           refine take_ (i := 30) (N := some 57) (v := ?_) (a' := ?_) qq55 rfl rfl (take_ofW HT_.out HW_.out (by kernel_rfl)) (fun _ _ _ h => h) (Or.inl ⟨by rfl, ?_⟩) hHeld ?_ ?_
           rotate_left; focus (rintro w' ⟨s0, s1, s2, s3, s4, s5, s6, s7, s8, s9, s10, s11, s12, s13, s14, s15⟩; go_simp; with_reducible rfl)
           rotate_left; focus (simp only [Act.put, sA, sB, sC, i64_w, i32_w]; rfl)
           refine one_ (i := 27) (N := some 54) qq56 rfl rfl (one_of HT_.out (by kernel_rfl)) (by decide) (fun K hK => ?_)
           refine goes_ Try.func17 (by kernel_rfl) rfl #[.slice (some ad442) t435.length co35, .int .i64 t426] (by rfl) rfl rfl (by (try simp only [sD, sE, sF]); first | done | rfl) ?_
           with_reducible refine (impl_FindThing.calls k _ _ t435 t426 t441 _ ?side1 ?side2 A22.out).mono ?_
           (case side1 => repeat (first | exact (Kd.R_reads' HO437.out).2.2 | (with_reducible refine cA ?_ _) | (with_reducible refine cN ?_ _) | (with_reducible refine cD ?_)))
           (case side2 => exact (Kd.R_reads' HO437.out).2.1)
           rintro e w38 ⟨rfl, hb⟩
           have HS8_ := (hb.cell (World.block_lt_of_cell? _ _ (hHeld.2.2.2.2.2.2.2.2.1))).trans (hHeld.2.2.2.2.2.2.2.2.1)
           have HS9_ := (hb.cell (World.block_lt_of_cell? _ _ (hHeld.2.2.2.2.2.2.2.2.2.1))).trans (hHeld.2.2.2.2.2.2.2.2.2.1)
           have HS10_ := (hb.cell (World.block_lt_of_cell? _ _ (hHeld.2.2.2.2.2.2.2.2.2.2.1))).trans (hHeld.2.2.2.2.2.2.2.2.2.2.1)
           have HS11_ := (hb.cell (World.block_lt_of_cell? _ _ (hHeld.2.2.2.2.2.2.2.2.2.2.2.1))).trans (hHeld.2.2.2.2.2.2.2.2.2.2.2.1)
           have HS12_ := (hb.cell (World.block_lt_of_cell? _ _ (hHeld.2.2.2.2.2.2.2.2.2.2.2.2.1))).trans (hHeld.2.2.2.2.2.2.2.2.2.2.2.2.1)
           have HS13_ := (hb.cell (World.block_lt_of_cell? _ _ (hHeld.2.2.2.2.2.2.2.2.2.2.2.2.2.1))).trans (hHeld.2.2.2.2.2.2.2.2.2.2.2.2.2.1)
           have HS14_ := (hb.cell (World.block_lt_of_cell? _ _ (hHeld.2.2.2.2.2.2.2.2.2.2.2.2.2.2.1))).trans (hHeld.2.2.2.2.2.2.2.2.2.2.2.2.2.2.1)
           have HS15_ := (hb.cell (World.block_lt_of_cell? _ _ (hHeld.2.2.2.2.2.2.2.2.2.2.2.2.2.2.2))).trans (hHeld.2.2.2.2.2.2.2.2.2.2.2.2.2.2.2)
           refine ⟨_, rfl, ?_⟩
           replace HO425 := Aside0.mk (Kd.R_below (by (with_reducible repeat (first | apply rA | apply rN | apply rD)); exact HO425.out) hb)
           replace HO437 := Aside0.mk (Kd.R_below (by (with_reducible repeat (first | apply rA | apply rN | apply rD)); exact HO437.out) hb); replace BK434 := qcb hb BK434
           replace HB := Aside0.mk (below_step (by repeat (first | (with_reducible first | exact HB.out | apply bA | apply bN | apply bD | refine bS ?_ GE434.out) | exact HB.out)) hb); (try clear hb); (try clear hb2); (try clear hk); (try clear hi)
           refine hK.out _ _ ⟨(blk_cell BK434.out 0).trans rfl, (blk_cell BK434.out 1).trans rfl, (blk_cell BK434.out 2).trans rfl, (blk_cell BK434.out 3).trans rfl, (blk_cell BK434.out 4).trans rfl, (blk_cell BK434.out 5).trans rfl, (blk_cell BK434.out 6).trans rfl, (blk_cell BK434.out 7).trans rfl, HS8_, HS9_, HS10_, HS11_, HS12_, HS13_, HS14_, HS15_⟩ (fun hHeld => ?_)
           clear hK K
           refine norm_ (a' := ?_) ?_ ?_
           rotate_left; focus (show Act.put _ (some 54) _ = _; simp only [Act.put, sA, sB, sC, i64_w, i32_w]; rfl)
           refine pure_ (i := 28) (N := some 55) (v := ?_) (a' := ?_) qq57 rfl rfl (any_of HT_.out (by kernel_rfl)) (fun _ _ _ h => h) (Or.inl ⟨by rfl, ?_⟩) ?_ ?_
           rotate_left; focus (intro w'; go_simp; with_reducible rfl)
           rotate_left; focus (simp only [Act.put, sA, sB, sC, i64_w, i32_w]; rfl)
           refine take_ (i := 29) (N := some 56) (v := ?_) (a' := ?_) qq58 rfl rfl (take_ofW HT_.out HW_.out (by kernel_rfl)) (fun _ _ _ h => h) (Or.inl ⟨by rfl, ?_⟩) hHeld ?_ ?_
           rotate_left; focus (rintro w' ⟨s0, s1, s2, s3, s4, s5, s6, s7, s8, s9, s10, s11, s12, s13, s14, s15⟩; go_simp; with_reducible rfl)
           rotate_left; focus (simp only [Act.put, sA, sB, sC, i64_w, i32_w]; rfl)
           refine pure_ (i := 31) (N := some 58) (v := ?_) (a' := ?_) qq59 rfl rfl (any_of HT_.out (by kernel_rfl)) (fun _ _ _ h => h) (Or.inl ⟨by rfl, ?_⟩) ?_ ?_
           rotate_left; focus (intro w'; go_simp; first | with_reducible rfl | (rw [if_pos c25e.out.1.1, if_pos c25e.out.1.2.1, if_pos c25e.out.1.2.2.1, if_pos c25e.out.1.2.2.2.1, if_pos c25e.out.1.2.2.2.2, if_pos c25e.out.2.1, if_pos c25e.out.2.2.1, if_pos c25e.out.2.2.2]; done) | (rw [if_pos c25e.out.1.1, if_pos c25e.out.1.2.1, if_pos c25e.out.1.2.2.1, if_pos c25e.out.1.2.2.2.1, if_pos c25e.out.1.2.2.2.2, if_pos c25e.out.2.1, if_pos c25e.out.2.2.1, if_pos c25e.out.2.2.2]; with_reducible rfl))
           rotate_left; focus (simp only [Act.put, sA, sB, sC, i64_w, i32_w]; rfl)
           refine pure_ (i := 32) (N := some 59) (v := ?_) (a' := ?_) qq60 rfl rfl (any_of HT_.out (by kernel_rfl)) (fun _ _ _ h => h) (Or.inl ⟨by rfl, ?_⟩) ?_ ?_
           rotate_left; focus (intro w'; go_simp; with_reducible rfl)
           rotate_left; focus (simp only [Act.put, sA, sB, sC, i64_w, i32_w]; rfl)
           refine pure_ (i := 33) (N := some 60) (v := ?_) (a' := ?_) qq61 rfl rfl (any_of HT_.out (by kernel_rfl)) (fun _ _ _ h => h) (Or.inl ⟨by rfl, ?_⟩) ?_ ?_
           rotate_left; focus (intro w'; go_simp; with_reducible rfl)
           rotate_left; focus (simp only [Act.put, sA, sB, sC, i64_w, i32_w]; rfl)
           refine pure_ (i := 34) (N := some 61) (v := ?_) (a' := ?_) qq62 rfl rfl (any_of HT_.out (by kernel_rfl)) (fun _ _ _ h => h) (Or.inl ⟨by rfl, ?_⟩) ?_ ?_
           rotate_left; focus (intro w'; go_simp; with_reducible rfl)
           rotate_left; focus (simp only [Act.put, sA, sB, sC, i64_w, i32_w]; rfl)
           refine pure_ (i := 35) (N := some 62) (v := ?_) (a' := ?_) qq63 rfl rfl (any_of HT_.out (by kernel_rfl)) (fun _ _ _ h => h) (Or.inl ⟨by rfl, ?_⟩) ?_ ?_
           rotate_left; focus (intro w'; go_simp; with_reducible rfl)
           rotate_left; focus (simp only [Act.put, sA, sB, sC, i64_w, i32_w]; rfl)
           refine pure_ (i := 38) (N := some 65) (v := ?_) (a' := ?_) qq64 rfl rfl (any_of HT_.out (by kernel_rfl)) (fun _ _ _ h => h) (Or.inl ⟨by rfl, ?_⟩) ?_ ?_
           rotate_left; focus (intro w'; go_simp; with_reducible rfl)
           rotate_left; focus (simp only [Act.put, sA, sB, sC, i64_w, i32_w]; rfl)
           refine pure_ (i := 39) (N := some 66) (v := ?_) (a' := ?_) qq65 rfl rfl (any_of HT_.out (by kernel_rfl)) (fun _ _ _ h => h) (Or.inl ⟨by rfl, ?_⟩) ?_ ?_
           rotate_left; focus (intro w'; go_simp; with_reducible rfl)
           rotate_left; focus (simp only [Act.put, sA, sB, sC, i64_w, i32_w]; rfl)
           refine take_ (i := 36) (N := some 63) (v := ?_) (a' := ?_) qq66 rfl rfl (take_ofW HT_.out HW_.out (by kernel_rfl)) (fun _ _ _ h => h) (Or.inl ⟨by rfl, ?_⟩) hHeld ?_ ?_
           rotate_left; focus (rintro w' ⟨s0, s1, s2, s3, s4, s5, s6, s7, s8, s9, s10, s11, s12, s13, s14, s15⟩; go_simp; with_reducible rfl)
           rotate_left; focus (simp only [Act.put, sA, sB, sC, i64_w, i32_w]; rfl)
           refine take_ (i := 40) (N := some 67) (v := ?_) (a' := ?_) qq67 rfl rfl (take_ofW HT_.out HW_.out (by kernel_rfl)) (fun _ _ _ h => h) (Or.inl ⟨by rfl, ?_⟩) hHeld ?_ ?_
           rotate_left; focus (rintro w' ⟨s0, s1, s2, s3, s4, s5, s6, s7, s8, s9, s10, s11, s12, s13, s14, s15⟩; go_simp; with_reducible rfl)
           rotate_left; focus (simp only [Act.put, sA, sB, sC, i64_w, i32_w]; rfl)
           refine one_ (i := 37) (N := some 64) qq68 rfl rfl (one_of HT_.out (by kernel_rfl)) (by decide) (fun K hK => ?_)
           refine goes_ Try.func19 (by kernel_rfl) rfl #[.slice (some ad442) t435.length co35, .int .i64 t431] (by rfl) rfl rfl (by (try simp only [sD, sE, sF]); first | done | rfl) ?_
           with_reducible refine (impl_FoundAt.calls k _ _ t435 t431 t443 _ ?side1 ?side2 A31.out).mono ?_
           (case side1 => repeat (first | exact (Kd.R_reads' HO437.out).2.2 | (with_reducible refine cA ?_ _) | (with_reducible refine cN ?_ _) | (with_reducible refine cD ?_)))
           (case side2 => exact (Kd.R_reads' HO437.out).2.1)
           rintro e w39 ⟨v444, rfl, ho0, hb⟩
           have HS8_ := (hb.cell (World.block_lt_of_cell? _ _ (hHeld.2.2.2.2.2.2.2.2.1))).trans (hHeld.2.2.2.2.2.2.2.2.1)
           have HS9_ := (hb.cell (World.block_lt_of_cell? _ _ (hHeld.2.2.2.2.2.2.2.2.2.1))).trans (hHeld.2.2.2.2.2.2.2.2.2.1)
           have HS10_ := (hb.cell (World.block_lt_of_cell? _ _ (hHeld.2.2.2.2.2.2.2.2.2.2.1))).trans (hHeld.2.2.2.2.2.2.2.2.2.2.1)
           have HS11_ := (hb.cell (World.block_lt_of_cell? _ _ (hHeld.2.2.2.2.2.2.2.2.2.2.2.1))).trans (hHeld.2.2.2.2.2.2.2.2.2.2.2.1)
           have HS12_ := (hb.cell (World.block_lt_of_cell? _ _ (hHeld.2.2.2.2.2.2.2.2.2.2.2.2.1))).trans (hHeld.2.2.2.2.2.2.2.2.2.2.2.2.1)
           have HS13_ := (hb.cell (World.block_lt_of_cell? _ _ (hHeld.2.2.2.2.2.2.2.2.2.2.2.2.2.1))).trans (hHeld.2.2.2.2.2.2.2.2.2.2.2.2.2.1)
           have HS14_ := (hb.cell (World.block_lt_of_cell? _ _ (hHeld.2.2.2.2.2.2.2.2.2.2.2.2.2.2.1))).trans (hHeld.2.2.2.2.2.2.2.2.2.2.2.2.2.2.1)
           have HS15_ := (hb.cell (World.block_lt_of_cell? _ _ (hHeld.2.2.2.2.2.2.2.2.2.2.2.2.2.2.2))).trans (hHeld.2.2.2.2.2.2.2.2.2.2.2.2.2.2.2)
           refine ⟨_, rfl, ?_⟩
           replace HO425 := Aside0.mk (Kd.R_below (by (with_reducible repeat (first | apply rA | apply rN | apply rD)); exact HO425.out) hb)
           replace HO437 := Aside0.mk (Kd.R_below (by (with_reducible repeat (first | apply rA | apply rN | apply rD)); exact HO437.out) hb)
           have HO445 := Aside0.mk (Kd.R_lower ho0 (below_size (by repeat (first | (with_reducible first | exact HB.out | apply bA | apply bN | apply bD | refine bS ?_ GE434.out) | exact HB.out)))); replace BK434 := qcb hb BK434
           replace HB := Aside0.mk (below_step (by repeat (first | (with_reducible first | exact HB.out | apply bA | apply bN | apply bD | refine bS ?_ GE434.out) | exact HB.out)) hb); (try clear hb); (try clear hb2); (try clear hk); (try clear hi); (try clear ho0)
           obtain ⟨Ao40, co40, eo40⟩ := Kd.R_slice HO445.out
           (first | subst eo40 | (injection eo40 with f1_ f2_ f3_; have f4_ := f1_.symm; have f5_ := f3_.symm; clear f1_ f2_ f3_; subst f4_; subst f5_))
           refine hK.out _ _ ⟨(blk_cell BK434.out 0).trans rfl, (blk_cell BK434.out 1).trans rfl, (blk_cell BK434.out 2).trans rfl, (blk_cell BK434.out 3).trans rfl, (blk_cell BK434.out 4).trans rfl, (blk_cell BK434.out 5).trans rfl, (blk_cell BK434.out 6).trans rfl, (blk_cell BK434.out 7).trans rfl, HS8_, HS9_, HS10_, HS11_, HS12_, HS13_, HS14_, HS15_⟩ (fun hHeld => ?_)
           clear hK K
           refine norm_ (a' := ?_) ?_ ?_
           rotate_left; focus (show Act.put _ (some 64) _ = _; simp only [Act.put, sA, sB, sC, i64_w, i32_w]; rfl)
           refine one_ (i := 41) (N := some 68) qq69 rfl rfl (one_of HT_.out (by kernel_rfl)) (by decide) (fun K hK => ?_)
           refine goes_ Try.func18 (by kernel_rfl) rfl #[.slice Ao40 t443.length co40, .int .i64 t426] (by rfl) rfl rfl (by (try simp only [sD, sE, sF]); first | done | rfl) ?_
           with_reducible refine (laws_contains.calls k _ _ t443 t426 true _ ?side1 ?side2 A32.out).mono ?_
           (case side1 => repeat (first | exact (Kd.R_reads' HO445.out).2.2 | (with_reducible refine cA ?_ _) | (with_reducible refine cN ?_ _) | (with_reducible refine cD ?_)))
           (case side2 => exact (Kd.R_reads' HO445.out).2.1)
           rintro e w' ⟨rfl, ⟨nd, rfl⟩⟩
           refine ⟨_, rfl, ?_⟩
           refine hK.out _ _ ⟨(blk_cell BK434.out 0).trans rfl, (blk_cell BK434.out 1).trans rfl, (blk_cell BK434.out 2).trans rfl, (blk_cell BK434.out 3).trans rfl, (blk_cell BK434.out 4).trans rfl, (blk_cell BK434.out 5).trans rfl, (blk_cell BK434.out 6).trans rfl, (blk_cell BK434.out 7).trans rfl, hHeld.2.2.2.2.2.2.2.2.1, hHeld.2.2.2.2.2.2.2.2.2.1, hHeld.2.2.2.2.2.2.2.2.2.2.1, hHeld.2.2.2.2.2.2.2.2.2.2.2.1, hHeld.2.2.2.2.2.2.2.2.2.2.2.2.1, hHeld.2.2.2.2.2.2.2.2.2.2.2.2.2.1, hHeld.2.2.2.2.2.2.2.2.2.2.2.2.2.2.1, hHeld.2.2.2.2.2.2.2.2.2.2.2.2.2.2.2⟩ (fun hHeld => ?_)
           clear hK K
           refine norm_ (a' := ?_) ?_ ?_
           rotate_left; focus (show Act.put _ (some 68) _ = _; simp only [Act.put, sA, sB, sC, i64_w, i32_w]; rfl)
           refine pure_ (i := 42) (N := some 69) (v := ?_) (a' := ?_) qq70 rfl rfl (any_of HT_.out (by kernel_rfl)) (fun _ _ _ h => h) (Or.inl ⟨by rfl, ?_⟩) ?_ ?_
           rotate_left; focus (intro w'; go_simp; with_reducible rfl)
           rotate_left; focus (simp only [Act.put, sA, sB, sC, i64_w, i32_w]; rfl)
           refine pure_ (i := 43) (N := some 70) (v := ?_) (a' := ?_) qq71 rfl rfl (any_of HT_.out (by kernel_rfl)) (fun _ _ _ h => h) (Or.inl ⟨by rfl, ?_⟩) ?_ ?_
           rotate_left; focus (intro w'; go_simp; with_reducible rfl)
           rotate_left; focus (simp only [Act.put, sA, sB, sC, i64_w, i32_w]; rfl)
           refine pure_ (i := 44) (N := some 71) (v := ?_) (a' := ?_) qq72 rfl rfl (any_of HT_.out (by kernel_rfl)) (fun _ _ _ h => h) (Or.inl ⟨by rfl, ?_⟩) ?_ ?_
           rotate_left; focus (intro w'; go_simp; with_reducible rfl)
           rotate_left; focus (simp only [Act.put, sA, sB, sC, i64_w, i32_w]; rfl)
           refine pure_ (i := 45) (N := some 72) (v := ?_) (a' := ?_) qq73 rfl rfl (any_of HT_.out (by kernel_rfl)) (fun _ _ _ h => h) (Or.inl ⟨by rfl, ?_⟩) ?_ ?_
           rotate_left; focus (intro w'; go_simp; with_reducible rfl)
           rotate_left; focus (simp only [Act.put, sA, sB, sC, i64_w, i32_w]; rfl)
           refine pure_ (i := 46) (N := some 73) (v := ?_) (a' := ?_) qq74 rfl rfl (any_of HT_.out (by kernel_rfl)) (fun _ _ _ h => h) (Or.inl ⟨by rfl, ?_⟩) ?_ ?_
           rotate_left; focus (intro w'; go_simp; with_reducible rfl)
           rotate_left; focus (simp only [Act.put, sA, sB, sC, i64_w, i32_w]; rfl)
           refine pure_ (i := 47) (N := some 74) (v := ?_) (a' := ?_) qq75 rfl rfl (any_of HT_.out (by kernel_rfl)) (fun _ _ _ h => h) (Or.inl ⟨by rfl, ?_⟩) ?_ ?_
           rotate_left; focus (intro w'; go_simp; with_reducible rfl)
           rotate_left; focus (simp only [Act.put, sA, sB, sC, i64_w, i32_w]; rfl)
           refine pure_ (i := 48) (N := some 75) (v := ?_) (a' := ?_) qq76 rfl rfl (any_of HT_.out (by kernel_rfl)) (fun _ _ _ h => h) (Or.inl ⟨by rfl, ?_⟩) ?_ ?_
           rotate_left; focus (intro w'; go_simp; with_reducible rfl)
           rotate_left; focus (simp only [Act.put, sA, sB, sC, i64_w, i32_w]; rfl)
           refine pure_ (i := 49) (N := some 76) (v := undef) (a' := ?_) qq77 rfl rfl (any_of HT_.out (by kernel_rfl)) (fun _ _ _ h => h) (Or.inr ⟨by rfl, rfl⟩) ?_ ?_
           rotate_left; focus (simp only [Act.put, sA, sB, sC, i64_w, i32_w]; rfl)
           refine pure_ (i := 50) (N := some 77) (v := undef) (a' := ?_) qq78 rfl rfl (any_of HT_.out (by kernel_rfl)) (fun _ _ _ h => h) (Or.inr ⟨by rfl, rfl⟩) ?_ ?_
           rotate_left; focus (simp only [Act.put, sA, sB, sC, i64_w, i32_w]; rfl)
           refine pure_ (i := 51) (N := some 78) (v := undef) (a' := ?_) qq79 rfl rfl (any_of HT_.out (by kernel_rfl)) (fun _ _ _ h => h) (Or.inr ⟨by rfl, rfl⟩) ?_ ?_
           rotate_left; focus (simp only [Act.put, sA, sB, sC, i64_w, i32_w]; rfl)
           refine pure_ (i := 52) (N := some 79) (v := undef) (a' := ?_) qq80 rfl rfl (any_of HT_.out (by kernel_rfl)) (fun _ _ _ h => h) (Or.inr ⟨by rfl, rfl⟩) ?_ ?_
           rotate_left; focus (simp only [Act.put, sA, sB, sC, i64_w, i32_w]; rfl)
           refine pure_ (i := 53) (N := some 80) (v := undef) (a' := ?_) qq81 rfl rfl (any_of HT_.out (by kernel_rfl)) (fun _ _ _ h => h) (Or.inr ⟨by rfl, rfl⟩) ?_ ?_
           rotate_left; focus (simp only [Act.put, sA, sB, sC, i64_w, i32_w]; rfl)
           refine pure_ (i := 54) (N := some 81) (v := ?_) (a' := ?_) qq82 rfl rfl (any_of HT_.out (by kernel_rfl)) (fun _ _ _ h => h) (Or.inl ⟨by rfl, ?_⟩) ?_ ?_
           rotate_left; focus (intro w'; go_simp; with_reducible rfl)
           rotate_left; focus (simp only [Act.put, sA, sB, sC, i64_w, i32_w]; rfl)
           refine pure_ (i := 55) (N := some 82) (v := ?_) (a' := ?_) qq83 rfl rfl (any_of HT_.out (by kernel_rfl)) (fun _ _ _ h => h) (Or.inl ⟨by rfl, ?_⟩) ?_ ?_
           rotate_left; focus (intro w'; go_simp; with_reducible rfl)
           rotate_left; focus (simp only [Act.put, sA, sB, sC, i64_w, i32_w]; rfl)
           refine done_ (done_of HT_.out (by kernel_rfl)) ?_
           try go_wp2
           go_meet
           case rel => exact ⟨_, (false), (by first | rfl | (simp; done) | (simp [*]; done)), H', ⟨by first | omega | exact Nat.le_refl _⟩, ⟨by (with_reducible repeat (first | refine dN ?_ _ | refine dW ?_ | refine dA ?_ _)); exact BK434.out⟩, ⟨by repeat (first | (with_reducible first | exact HB.out | apply bA | apply bN | apply bD | refine bS ?_ GE434.out) | exact HB.out)⟩⟩
          ·replace c33 := Bool.eq_false_iff.mpr c33
           subst c33
           have H1 : (laws_FnFinds.j0 k l0 true) = some true := by rw [if_neg (show ¬ (false = true) by decide)] at H; exact H
           clear H
           have H := H1
           clear H1
           exact absurd H (laws_FnFinds.j0_no _ _)
        ·rw [if_neg c24] at H
         exact absurd H (by simp)
       ·rw [if_neg c23] at H
        exact absurd H (by simp)
     ·rw [if_neg c15] at H
      have c15b0 : ((t435.length : Int) == (wrap64 ((t423.length : Int) + 1))) = false := beq_eq_false_iff_ne.mpr c15
      have c15b1 : ((t435.length : Int) != (wrap64 ((t423.length : Int) + 1))) = true := bne_iff_ne.mpr c15
      (first | rw [c15b0] | (simp only [i64_w, i32_w]; rw [c15b0]) | skip)
      exact absurd H (laws_FnFinds.j0_no _ _)
    ·replace c14 := Bool.eq_false_iff.mpr c14
     subst c14
     have H1 : (laws_FnFinds.j0 k l0 true) = some true := by rw [if_neg (show ¬ (false = true) by decide)] at H; exact H
     clear H
     have H := H1
     clear H1
     exact absurd H (laws_FnFinds.j0_no _ _)
   ·replace c12 := Bool.eq_false_iff.mpr c12
    subst c12
    have H1 : (laws_FnFinds.j0 k l0 ((t435.length : Int) != (t423.length : Int))) = some true := by rw [if_neg (show ¬ (false = true) by decide)] at H; exact H
    clear H
    have H := H1
    clear H1
    have H' := Aside0.mk H
    clear H
    try go_wp2
    replace HO425 := Aside0.mk (Kd.R_drew HO425.out); replace HO437 := Aside0.mk (Kd.R_drew HO437.out); replace BK434 := Aside0.mk (blk_drew BK434.out); replace HB := Aside0.mk (below_drew1 HB.out)
    obtain ⟨Ao55, co55, eo55⟩ := Kd.R_slice HO437.out
    (first | subst eo55 | (injection eo55 with f1_ f2_ f3_; have f4_ := f1_.symm; have f5_ := f3_.symm; clear f1_ f2_ f3_; subst f4_; subst f5_))
    refine start_ (n := 56) (S := fun w' => True) (ds := []) qq27 (by kernel_rfl) rfl rfl trivial (fun hHeld => ?_); refine with_tabW laws_FnFinds.tab5 laws_FnFinds.bits5 (fun HT_ HW_ => ?_)
    generalize w11.drew = w54 at HO425 HO437 BK434 HB hHeld ⊢
    refine pure_ (i := 0) (N := some 27) (v := ?_) (a' := ?_) qq28 rfl rfl (any_of HT_.out (by kernel_rfl)) (fun _ _ _ h => h) (Or.inl ⟨by rfl, ?_⟩) ?_ ?_
    rotate_left; focus (intro w'; go_simp; with_reducible rfl)
    rotate_left; focus (simp only [Act.put, sA, sB, sC, i64_w, i32_w]; rfl)
    refine pure_ (i := 1) (N := some 28) (v := ?_) (a' := ?_) qq29 rfl rfl (any_of HT_.out (by kernel_rfl)) (fun _ _ _ h => h) (Or.inl ⟨by rfl, ?_⟩) ?_ ?_
    rotate_left; focus (intro w'; go_simp; with_reducible rfl)
    rotate_left; focus (simp only [Act.put, sA, sB, sC, i64_w, i32_w]; rfl)
    refine pure_ (i := 2) (N := some 29) (v := undef) (a' := ?_) qq30 rfl rfl (any_of HT_.out (by kernel_rfl)) (fun _ _ _ h => h) (Or.inr ⟨by rfl, rfl⟩) ?_ ?_
    rotate_left; focus (simp only [Act.put, sA, sB, sC, i64_w, i32_w]; rfl)
    refine pure_ (i := 3) (N := some 30) (v := undef) (a' := ?_) qq31 rfl rfl (any_of HT_.out (by kernel_rfl)) (fun _ _ _ h => h) (Or.inr ⟨by rfl, rfl⟩) ?_ ?_
    rotate_left; focus (simp only [Act.put, sA, sB, sC, i64_w, i32_w]; rfl)
    refine pure_ (i := 4) (N := some 31) (v := undef) (a' := ?_) qq32 rfl rfl (any_of HT_.out (by kernel_rfl)) (fun _ _ _ h => h) (Or.inr ⟨by rfl, rfl⟩) ?_ ?_
    rotate_left; focus (simp only [Act.put, sA, sB, sC, i64_w, i32_w]; rfl)
    refine pure_ (i := 5) (N := some 32) (v := undef) (a' := ?_) qq33 rfl rfl (any_of HT_.out (by kernel_rfl)) (fun _ _ _ h => h) (Or.inr ⟨by rfl, rfl⟩) ?_ ?_
    rotate_left; focus (simp only [Act.put, sA, sB, sC, i64_w, i32_w]; rfl)
    refine pure_ (i := 6) (N := some 33) (v := undef) (a' := ?_) qq34 rfl rfl (any_of HT_.out (by kernel_rfl)) (fun _ _ _ h => h) (Or.inr ⟨by rfl, rfl⟩) ?_ ?_
    rotate_left; focus (simp only [Act.put, sA, sB, sC, i64_w, i32_w]; rfl)
    refine pure_ (i := 7) (N := some 34) (v := undef) (a' := ?_) qq35 rfl rfl (any_of HT_.out (by kernel_rfl)) (fun _ _ _ h => h) (Or.inr ⟨by rfl, rfl⟩) ?_ ?_
    rotate_left; focus (simp only [Act.put, sA, sB, sC, i64_w, i32_w]; rfl)
    refine pure_ (i := 8) (N := some 35) (v := undef) (a' := ?_) qq36 rfl rfl (any_of HT_.out (by kernel_rfl)) (fun _ _ _ h => h) (Or.inr ⟨by rfl, rfl⟩) ?_ ?_
    rotate_left; focus (simp only [Act.put, sA, sB, sC, i64_w, i32_w]; rfl)
    refine pure_ (i := 9) (N := some 36) (v := undef) (a' := ?_) qq37 rfl rfl (any_of HT_.out (by kernel_rfl)) (fun _ _ _ h => h) (Or.inr ⟨by rfl, rfl⟩) ?_ ?_
    rotate_left; focus (simp only [Act.put, sA, sB, sC, i64_w, i32_w]; rfl)
    refine pure_ (i := 10) (N := some 37) (v := undef) (a' := ?_) qq38 rfl rfl (any_of HT_.out (by kernel_rfl)) (fun _ _ _ h => h) (Or.inr ⟨by rfl, rfl⟩) ?_ ?_
    rotate_left; focus (simp only [Act.put, sA, sB, sC, i64_w, i32_w]; rfl)
    refine pure_ (i := 11) (N := some 38) (v := undef) (a' := ?_) qq39 rfl rfl (any_of HT_.out (by kernel_rfl)) (fun _ _ _ h => h) (Or.inr ⟨by rfl, rfl⟩) ?_ ?_
    rotate_left; focus (simp only [Act.put, sA, sB, sC, i64_w, i32_w]; rfl)
    refine pure_ (i := 12) (N := some 39) (v := undef) (a' := ?_) qq40 rfl rfl (any_of HT_.out (by kernel_rfl)) (fun _ _ _ h => h) (Or.inr ⟨by rfl, rfl⟩) ?_ ?_
    rotate_left; focus (simp only [Act.put, sA, sB, sC, i64_w, i32_w]; rfl)
    refine pure_ (i := 13) (N := some 40) (v := undef) (a' := ?_) qq41 rfl rfl (any_of HT_.out (by kernel_rfl)) (fun _ _ _ h => h) (Or.inr ⟨by rfl, rfl⟩) ?_ ?_
    rotate_left; focus (simp only [Act.put, sA, sB, sC, i64_w, i32_w]; rfl)
    refine pure_ (i := 14) (N := some 41) (v := undef) (a' := ?_) qq42 rfl rfl (any_of HT_.out (by kernel_rfl)) (fun _ _ _ h => h) (Or.inr ⟨by rfl, rfl⟩) ?_ ?_
    rotate_left; focus (simp only [Act.put, sA, sB, sC, i64_w, i32_w]; rfl)
    refine pure_ (i := 15) (N := some 42) (v := undef) (a' := ?_) qq43 rfl rfl (any_of HT_.out (by kernel_rfl)) (fun _ _ _ h => h) (Or.inr ⟨by rfl, rfl⟩) ?_ ?_
    rotate_left; focus (simp only [Act.put, sA, sB, sC, i64_w, i32_w]; rfl)
    refine pure_ (i := 16) (N := some 43) (v := undef) (a' := ?_) qq44 rfl rfl (any_of HT_.out (by kernel_rfl)) (fun _ _ _ h => h) (Or.inr ⟨by rfl, rfl⟩) ?_ ?_
    rotate_left; focus (simp only [Act.put, sA, sB, sC, i64_w, i32_w]; rfl)
    refine pure_ (i := 17) (N := some 44) (v := undef) (a' := ?_) qq45 rfl rfl (any_of HT_.out (by kernel_rfl)) (fun _ _ _ h => h) (Or.inr ⟨by rfl, rfl⟩) ?_ ?_
    rotate_left; focus (simp only [Act.put, sA, sB, sC, i64_w, i32_w]; rfl)
    refine pure_ (i := 18) (N := some 45) (v := undef) (a' := ?_) qq46 rfl rfl (any_of HT_.out (by kernel_rfl)) (fun _ _ _ h => h) (Or.inr ⟨by rfl, rfl⟩) ?_ ?_
    rotate_left; focus (simp only [Act.put, sA, sB, sC, i64_w, i32_w]; rfl)
    refine pure_ (i := 19) (N := some 46) (v := undef) (a' := ?_) qq47 rfl rfl (any_of HT_.out (by kernel_rfl)) (fun _ _ _ h => h) (Or.inr ⟨by rfl, rfl⟩) ?_ ?_
    rotate_left; focus (simp only [Act.put, sA, sB, sC, i64_w, i32_w]; rfl)
    refine pure_ (i := 20) (N := some 47) (v := undef) (a' := ?_) qq48 rfl rfl (any_of HT_.out (by kernel_rfl)) (fun _ _ _ h => h) (Or.inr ⟨by rfl, rfl⟩) ?_ ?_
    rotate_left; focus (simp only [Act.put, sA, sB, sC, i64_w, i32_w]; rfl)
    refine pure_ (i := 21) (N := some 48) (v := undef) (a' := ?_) qq49 rfl rfl (any_of HT_.out (by kernel_rfl)) (fun _ _ _ h => h) (Or.inr ⟨by rfl, rfl⟩) ?_ ?_
    rotate_left; focus (simp only [Act.put, sA, sB, sC, i64_w, i32_w]; rfl)
    refine pure_ (i := 22) (N := some 49) (v := undef) (a' := ?_) qq50 rfl rfl (any_of HT_.out (by kernel_rfl)) (fun _ _ _ h => h) (Or.inr ⟨by rfl, rfl⟩) ?_ ?_
    rotate_left; focus (simp only [Act.put, sA, sB, sC, i64_w, i32_w]; rfl)
    refine pure_ (i := 23) (N := some 50) (v := undef) (a' := ?_) qq51 rfl rfl (any_of HT_.out (by kernel_rfl)) (fun _ _ _ h => h) (Or.inr ⟨by rfl, rfl⟩) ?_ ?_
    rotate_left; focus (simp only [Act.put, sA, sB, sC, i64_w, i32_w]; rfl)
    refine pure_ (i := 24) (N := some 51) (v := undef) (a' := ?_) qq52 rfl rfl (any_of HT_.out (by kernel_rfl)) (fun _ _ _ h => h) (Or.inr ⟨by rfl, rfl⟩) ?_ ?_
    rotate_left; focus (simp only [Act.put, sA, sB, sC, i64_w, i32_w]; rfl)
    refine pure_ (i := 25) (N := some 52) (v := undef) (a' := ?_) qq53 rfl rfl (any_of HT_.out (by kernel_rfl)) (fun _ _ _ h => h) (Or.inr ⟨by rfl, rfl⟩) ?_ ?_
    rotate_left; focus (simp only [Act.put, sA, sB, sC, i64_w, i32_w]; rfl)
    refine pure_ (i := 26) (N := some 53) (v := undef) (a' := ?_) qq54 rfl rfl (any_of HT_.out (by kernel_rfl)) (fun _ _ _ h => h) (Or.inr ⟨by rfl, rfl⟩) ?_ ?_
    rotate_left; focus (simp only [Act.put, sA, sB, sC, i64_w, i32_w]; rfl)
    refine pure_ (i := 27) (N := some 54) (v := undef) (a' := ?_) qq84 rfl rfl (any_of HT_.out (by kernel_rfl)) (fun _ _ _ h => h) (Or.inr ⟨by rfl, rfl⟩) ?_ ?_
    rotate_left; focus (simp only [Act.put, sA, sB, sC, i64_w, i32_w]; rfl)
    refine pure_ (i := 28) (N := some 55) (v := undef) (a' := ?_) qq85 rfl rfl (any_of HT_.out (by kernel_rfl)) (fun _ _ _ h => h) (Or.inr ⟨by rfl, rfl⟩) ?_ ?_
    rotate_left; focus (simp only [Act.put, sA, sB, sC, i64_w, i32_w]; rfl)
    refine pure_ (i := 29) (N := some 56) (v := undef) (a' := ?_) qq86 rfl rfl (any_of HT_.out (by kernel_rfl)) (fun _ _ _ h => h) (Or.inr ⟨by rfl, rfl⟩) ?_ ?_
    rotate_left; focus (simp only [Act.put, sA, sB, sC, i64_w, i32_w]; rfl)
    refine pure_ (i := 30) (N := some 57) (v := undef) (a' := ?_) qq58 rfl rfl (any_of HT_.out (by kernel_rfl)) (fun _ _ _ h => h) (Or.inr ⟨by rfl, rfl⟩) ?_ ?_
    rotate_left; focus (simp only [Act.put, sA, sB, sC, i64_w, i32_w]; rfl)
    refine pure_ (i := 31) (N := some 58) (v := undef) (a' := ?_) qq59 rfl rfl (any_of HT_.out (by kernel_rfl)) (fun _ _ _ h => h) (Or.inr ⟨by rfl, rfl⟩) ?_ ?_
    rotate_left; focus (simp only [Act.put, sA, sB, sC, i64_w, i32_w]; rfl)
    refine pure_ (i := 32) (N := some 59) (v := undef) (a' := ?_) qq60 rfl rfl (any_of HT_.out (by kernel_rfl)) (fun _ _ _ h => h) (Or.inr ⟨by rfl, rfl⟩) ?_ ?_
    rotate_left; focus (simp only [Act.put, sA, sB, sC, i64_w, i32_w]; rfl)
    refine pure_ (i := 33) (N := some 60) (v := undef) (a' := ?_) qq61 rfl rfl (any_of HT_.out (by kernel_rfl)) (fun _ _ _ h => h) (Or.inr ⟨by rfl, rfl⟩) ?_ ?_
    rotate_left; focus (simp only [Act.put, sA, sB, sC, i64_w, i32_w]; rfl)
    refine pure_ (i := 34) (N := some 61) (v := undef) (a' := ?_) qq62 rfl rfl (any_of HT_.out (by kernel_rfl)) (fun _ _ _ h => h) (Or.inr ⟨by rfl, rfl⟩) ?_ ?_
    rotate_left; focus (simp only [Act.put, sA, sB, sC, i64_w, i32_w]; rfl)
    refine pure_ (i := 35) (N := some 62) (v := undef) (a' := ?_) qq63 rfl rfl (any_of HT_.out (by kernel_rfl)) (fun _ _ _ h => h) (Or.inr ⟨by rfl, rfl⟩) ?_ ?_
    rotate_left; focus (simp only [Act.put, sA, sB, sC, i64_w, i32_w]; rfl)
    refine pure_ (i := 36) (N := some 63) (v := undef) (a' := ?_) qq87 rfl rfl (any_of HT_.out (by kernel_rfl)) (fun _ _ _ h => h) (Or.inr ⟨by rfl, rfl⟩) ?_ ?_
    rotate_left; focus (simp only [Act.put, sA, sB, sC, i64_w, i32_w]; rfl)
    refine pure_ (i := 37) (N := some 64) (v := undef) (a' := ?_) qq88 rfl rfl (any_of HT_.out (by kernel_rfl)) (fun _ _ _ h => h) (Or.inr ⟨by rfl, rfl⟩) ?_ ?_
    rotate_left; focus (simp only [Act.put, sA, sB, sC, i64_w, i32_w]; rfl)
    refine pure_ (i := 38) (N := some 65) (v := undef) (a' := ?_) qq89 rfl rfl (any_of HT_.out (by kernel_rfl)) (fun _ _ _ h => h) (Or.inr ⟨by rfl, rfl⟩) ?_ ?_
    rotate_left; focus (simp only [Act.put, sA, sB, sC, i64_w, i32_w]; rfl)
    refine pure_ (i := 39) (N := some 66) (v := undef) (a' := ?_) qq90 rfl rfl (any_of HT_.out (by kernel_rfl)) (fun _ _ _ h => h) (Or.inr ⟨by rfl, rfl⟩) ?_ ?_
    rotate_left; focus (simp only [Act.put, sA, sB, sC, i64_w, i32_w]; rfl)
    refine pure_ (i := 40) (N := some 67) (v := undef) (a' := ?_) qq68 rfl rfl (any_of HT_.out (by kernel_rfl)) (fun _ _ _ h => h) (Or.inr ⟨by rfl, rfl⟩) ?_ ?_
    rotate_left; focus (simp only [Act.put, sA, sB, sC, i64_w, i32_w]; rfl)
    refine pure_ (i := 41) (N := some 68) (v := undef) (a' := ?_) qq69 rfl rfl (any_of HT_.out (by kernel_rfl)) (fun _ _ _ h => h) (Or.inr ⟨by rfl, rfl⟩) ?_ ?_
    rotate_left; focus (simp only [Act.put, sA, sB, sC, i64_w, i32_w]; rfl)
    refine pure_ (i := 42) (N := some 69) (v := undef) (a' := ?_) qq70 rfl rfl (any_of HT_.out (by kernel_rfl)) (fun _ _ _ h => h) (Or.inr ⟨by rfl, rfl⟩) ?_ ?_
    rotate_left; focus (simp only [Act.put, sA, sB, sC, i64_w, i32_w]; rfl)
    refine pure_ (i := 43) (N := some 70) (v := undef) (a' := ?_) qq71 rfl rfl (any_of HT_.out (by kernel_rfl)) (fun _ _ _ h => h) (Or.inr ⟨by rfl, rfl⟩) ?_ ?_
    rotate_left; focus (simp only [Act.put, sA, sB, sC, i64_w, i32_w]; rfl)
    refine pure_ (i := 44) (N := some 71) (v := ?_) (a' := ?_) qq72 rfl rfl (any_of HT_.out (by kernel_rfl)) (fun _ _ _ h => h) (Or.inl ⟨by rfl, ?_⟩) ?_ ?_
    rotate_left; focus (intro w'; go_simp; with_reducible rfl)
    rotate_left; focus (simp only [Act.put, sA, sB, sC, i64_w, i32_w]; rfl)
    refine pure_ (i := 45) (N := some 72) (v := ?_) (a' := ?_) qq73 rfl rfl (any_of HT_.out (by kernel_rfl)) (fun _ _ _ h => h) (Or.inl ⟨by rfl, ?_⟩) ?_ ?_
    rotate_left; focus (intro w'; go_simp; with_reducible rfl)
    rotate_left; focus (simp only [Act.put, sA, sB, sC, i64_w, i32_w]; rfl)
    refine pure_ (i := 46) (N := some 73) (v := ?_) (a' := ?_) qq74 rfl rfl (any_of HT_.out (by kernel_rfl)) (fun _ _ _ h => h) (Or.inl ⟨by rfl, ?_⟩) ?_ ?_
    rotate_left; focus (intro w'; go_simp; with_reducible rfl)
    rotate_left; focus (simp only [Act.put, sA, sB, sC, i64_w, i32_w]; rfl)
    refine pure_ (i := 47) (N := some 74) (v := ?_) (a' := ?_) qq75 rfl rfl (any_of HT_.out (by kernel_rfl)) (fun _ _ _ h => h) (Or.inl ⟨by rfl, ?_⟩) ?_ ?_
    rotate_left; focus (intro w'; go_simp; with_reducible rfl)
    rotate_left; focus (simp only [Act.put, sA, sB, sC, i64_w, i32_w]; rfl)
    refine pure_ (i := 48) (N := some 75) (v := ?_) (a' := ?_) qq76 rfl rfl (any_of HT_.out (by kernel_rfl)) (fun _ _ _ h => h) (Or.inl ⟨by rfl, ?_⟩) ?_ ?_
    rotate_left; focus (intro w'; go_simp; with_reducible rfl)
    rotate_left; focus (simp only [Act.put, sA, sB, sC, i64_w, i32_w]; rfl)
    refine pure_ (i := 49) (N := some 76) (v := ?_) (a' := ?_) qq77 rfl rfl (any_of HT_.out (by kernel_rfl)) (fun _ _ _ h => h) (Or.inl ⟨by rfl, ?_⟩) ?_ ?_
    rotate_left; focus (intro w'; go_simp; with_reducible rfl)
    rotate_left; focus (simp only [Act.put, sA, sB, sC, i64_w, i32_w]; rfl)
    refine pure_ (i := 50) (N := some 77) (v := ?_) (a' := ?_) qq78 rfl rfl (any_of HT_.out (by kernel_rfl)) (fun _ _ _ h => h) (Or.inl ⟨by rfl, ?_⟩) ?_ ?_
    rotate_left; focus (intro w'; go_simp; with_reducible rfl)
    rotate_left; focus (simp only [Act.put, sA, sB, sC, i64_w, i32_w]; rfl)
    refine pure_ (i := 51) (N := some 78) (v := ?_) (a' := ?_) qq79 rfl rfl (any_of HT_.out (by kernel_rfl)) (fun _ _ _ h => h) (Or.inl ⟨by rfl, ?_⟩) ?_ ?_
    rotate_left; focus (intro w'; go_simp; with_reducible rfl)
    rotate_left; focus (simp only [Act.put, sA, sB, sC, i64_w, i32_w]; rfl)
    refine pure_ (i := 52) (N := some 79) (v := ?_) (a' := ?_) qq80 rfl rfl (any_of HT_.out (by kernel_rfl)) (fun _ _ _ h => h) (Or.inl ⟨by rfl, ?_⟩) ?_ ?_
    rotate_left; focus (intro w'; go_simp; with_reducible rfl)
    rotate_left; focus (simp only [Act.put, sA, sB, sC, i64_w, i32_w]; rfl)
    refine pure_ (i := 53) (N := some 80) (v := ?_) (a' := ?_) qq81 rfl rfl (any_of HT_.out (by kernel_rfl)) (fun _ _ _ h => h) (Or.inl ⟨by rfl, ?_⟩) ?_ ?_
    rotate_left; focus (intro w'; go_simp; with_reducible rfl)
    rotate_left; focus (simp only [Act.put, sA, sB, sC, i64_w, i32_w]; rfl)
    refine pure_ (i := 54) (N := some 81) (v := ?_) (a' := ?_) qq82 rfl rfl (any_of HT_.out (by kernel_rfl)) (fun _ _ _ h => h) (Or.inl ⟨by rfl, ?_⟩) ?_ ?_
    rotate_left; focus (intro w'; go_simp; with_reducible rfl)
    rotate_left; focus (simp only [Act.put, sA, sB, sC, i64_w, i32_w]; rfl)
    refine pure_ (i := 55) (N := some 82) (v := ?_) (a' := ?_) qq83 rfl rfl (any_of HT_.out (by kernel_rfl)) (fun _ _ _ h => h) (Or.inl ⟨by rfl, ?_⟩) ?_ ?_
    rotate_left; focus (intro w'; go_simp; with_reducible rfl)
    rotate_left; focus (simp only [Act.put, sA, sB, sC, i64_w, i32_w]; rfl)
    refine done_ (done_of HT_.out (by kernel_rfl)) ?_
    try go_wp2
    go_meet
    case rel => exact ⟨_, (((t435.length : Int) != (t423.length : Int))), (by first | rfl | (simp; done) | (simp [*]; done)), H', ⟨by first | omega | exact Nat.le_refl _⟩, ⟨by (with_reducible repeat (first | refine dN ?_ _ | refine dW ?_ | refine dA ?_ _)); exact BK434.out⟩, ⟨by repeat (first | (with_reducible first | exact HB.out | apply bA | apply bN | apply bD | refine bS ?_ GE434.out) | exact HB.out)⟩⟩
  case rest =>
   clear HC6
   try clear c1
   try clear p2
   try clear c12
   obtain ⟨kq, x82_5, rfl, HA, HJ5, BK434, HB⟩ := hcut
   cases kq with
   | zero => exact absurd HA.out (by simp [laws_FnFinds.j0])
   | succ kj5 =>
    have H := HA.out
    clear HA
    simp only [laws_FnFinds.j0] at H
    by_cases c56 : x82_5 = true
    ·subst c56
     have H1 : (some false) = some true := by rw [if_pos rfl] at H; exact H
     clear H
     have H := H1
     clear H1
     exact absurd (Option.some.inj H) (by decide)
    ·replace c56 := Bool.eq_false_iff.mpr c56
     subst c56
     have H1 : ((spec_DrawFoundIn.f kj5 l0).bind fun bt447 => ((impl_FoundIn.f kj5 bt447.1 bt447.2.1 bt447.2.2).bind fun t453 => (laws_FnFinds.l0 kj5 l0 bt447.1 t453 0 0 bt447.2.1 bt447.2.2))) = some true := by rw [if_neg (show ¬ (false = true) by decide)] at H; exact H
     clear H
     have H := H1
     clear H1
     replace H := obm H
     obtain ⟨⟨t447, t450, t451⟩, A570, H⟩ := H
     replace H : ((impl_FoundIn.f kj5 t447 t450 t451).bind fun t453 => (laws_FnFinds.l0 kj5 l0 t447 t453 0 0 t450 t451)) = some true := H
     have A57 := Aside0.mk A570
     clear A570
     replace H := obm H
     obtain ⟨t453, A580, H⟩ := H
     replace H : (laws_FnFinds.l0 kj5 l0 t447 t453 0 0 t450 t451) = some true := H
     have A58 := Aside0.mk A580
     clear A580
     have H' := Aside0.mk H
     clear H
     go_wp2_with (first | ((with_reducible refine gate_callee (f := 20) rfl ?_); refine goesL_ (some 85) rfl rfl Try.func20 (by kernel_rfl) rfl #[.slice A0 l0.length c0] rfl (by (try simp only [sD, sE, sF]); first | done | rfl) ?_; (with_reducible refine (spec_DrawFoundIn.calls kj5 _ _ l0 t447 t450 t451 _ ?side1 ?side2 A57.out).mono ?_); (case side1 => repeat (first | exact (Kd.C_below HR0.out HB.out) | (with_reducible refine cA ?_ _) | (with_reducible refine cN ?_ _) | (with_reducible refine cD ?_))); (case side2 => exact HC0.out); rintro e w59 ⟨v448, rfl, ho0, hb⟩; refine ⟨_, rfl, ?_⟩; have HO449 := Aside0.mk (Kd.R_lower (Kd.R_newB ho0 (g := gb434) (o := .cells #[.int .i64 t426, .int .i64 t427, .int .i64 t428, .int .i64 t429, .int .i64 t430, .int .i64 t431, .int .i64 t432, .int .i64 t433] 31 (0, 0)) (by (with_reducible repeat (first | refine dN ?_ _ | refine dW ?_ | refine dA ?_ _)); exact BK434.out)) (below_size (by repeat (first | (with_reducible first | exact HB.out | apply bA | apply bN | apply bD | refine bS ?_ GE434.out) | exact HB.out)))); replace BK434 := qcb hb BK434; replace HB := Aside0.mk (below_step (by repeat (first | (with_reducible first | exact HB.out | apply bA | apply bN | apply bD | refine bS ?_ GE434.out) | exact HB.out)) hb); (try clear hb); (try clear hb2); (try clear hk); (try clear hi); (try clear ho0)) | ((with_reducible refine gate_dst (N := 8) rfl ?_); (try (refine gate_guard (by rfl) ?_; dsimp only)); refine box_event ?hg (N := 8) ?hd (cs := #[.int .i64 0, .int .i64 0]) (t := 41) ?hr ?_; (case hd => rfl); (case hg => rfl); (case hr => first | (go_simp; done) | (go_simp; rfl)); intro gb452 hg w60 hbox hb; replace HO449 := Aside0.mk (Kd.R_below (by (with_reducible repeat (first | apply rA | apply rN | apply rD)); exact HO449.out) hb); have BK452 := Aside0.mk (hbox); have GW452 := Aside0.mk ((by rw [hg]; exact (below_size (by repeat (first | (with_reducible first | exact HB.out | apply bA | apply bN | apply bD | refine bS ?_ GE434.out) | exact HB.out))) : w.heap.size ≤ gb452)); have GE452 := Aside0.mk ((by rw [hg]; exact (below_size (by repeat (first | (with_reducible first | exact HB.out | apply bA | apply bN | apply bD | refine bS ?_ GE434.out) | exact HB.out))) : w.heap.size ≤ gb452)); replace HB := Aside0.mk (below_step (by repeat (first | (with_reducible first | exact HB.out | apply bA | apply bN | apply bD | refine bS ?_ GE434.out) | exact HB.out)) hb); have NB434_452 := Aside0.mk ((by rw [hg]; exact Nat.ne_of_lt (blk_lt (g := gb434) (o := .cells #[.int .i64 t426, .int .i64 t427, .int .i64 t428, .int .i64 t429, .int .i64 t430, .int .i64 t431, .int .i64 t432, .int .i64 t433] 31 (0, 0)) (by (with_reducible repeat (first | refine dN ?_ _ | refine dW ?_ | refine dA ?_ _)); exact BK434.out)) : gb434 ≠ gb452)); have NB452_434 := Aside0.mk ((by rw [hg]; exact Nat.ne_of_gt (blk_lt (g := gb434) (o := .cells #[.int .i64 t426, .int .i64 t427, .int .i64 t428, .int .i64 t429, .int .i64 t430, .int .i64 t431, .int .i64 t432, .int .i64 t433] 31 (0, 0)) (by (with_reducible repeat (first | refine dN ?_ _ | refine dW ?_ | refine dA ?_ _)); exact BK434.out)) : gb452 ≠ gb434)); replace BK434 := qcb hb BK434; clear hb hbox hg; have hnb61 := NB452_434.out; have hnc61 := NB434_452.out; have hcz62_0 : w60.cell? ⟨gb452, 0, none⟩ = some (.int .i64 0) := (blk_cell BK452.out 0).trans rfl; have hcz62_1 : w60.cell? ⟨gb452, 1, none⟩ = some (.int .i64 0) := (blk_cell BK452.out 1).trans rfl; have hfz62_0 := blk_frozen BK452.out 0; have hfz62_1 := blk_frozen BK452.out 1; obtain ⟨Ao63, co63, eo63⟩ := Kd.R_slice HO449.out; subst eo63) | ((with_reducible refine gate_callee (f := 21) rfl ?_); refine goesL_ (some 90) rfl rfl Try.func21 (by kernel_rfl) rfl #[.slice Ao63 t447.length co63, .agg #[.int .i64 t450, .int .i64 t451]] rfl (by (try simp only [sD, sE, sF]); first | done | rfl) ?_; (with_reducible refine (impl_FoundIn.calls kj5 _ _ t447 t450 t451 t453 _ ?side1 ?side2 A58.out).mono ?_); (case side1 => refine (Kd.R_reads' (e := 31) (base := w.heap.size) (ok := fun k_ => (True ∧ k_ ≠ gb434)) (n := t447.length) (c := co63) ?_).2.2; exact (by (with_reducible repeat (first | apply rA | apply rN | apply rD)); exact (Kd.R_mono (Kd.R_far (p := ⟨gb452, 1, none⟩) (Kd.R_far (p := ⟨gb452, 0, none⟩) (Kd.R_types HO449.out BK452.out (by decide)) (fun _ hk => hk.2) (.int .i64 t450)) (fun _ hk => hk.2) (.int .i64 t451)) (fun _ h_ => h_.1)))); (case side2 => exact (Kd.R_reads' HO449.out).2.1); rintro e w64 ⟨v454, rfl, ho0, hb⟩; refine ⟨_, rfl, ?_⟩; replace HO449 := Aside0.mk (Kd.R_below (by (with_reducible repeat (first | apply rA | apply rN | apply rD)); exact (Kd.R_mono (Kd.R_far (p := ⟨gb452, 1, none⟩) (Kd.R_far (p := ⟨gb452, 0, none⟩) (Kd.R_types HO449.out BK452.out (by decide)) (fun _ hk => hk.2) (.int .i64 t450)) (fun _ hk => hk.2) (.int .i64 t451)) (fun _ h_ => h_.1))) hb); have HO455 := Aside0.mk (Kd.R_lower ho0 (below_size (by repeat (first | (with_reducible first | exact HB.out | apply bA | apply bN | apply bD | refine bS ?_ GE434.out | refine bS ?_ GE452.out) | exact HB.out)))); replace BK434 := Aside0.mk (blk_below (g := gb434) (o := .cells #[.int .i64 t426, .int .i64 t427, .int .i64 t428, .int .i64 t429, .int .i64 t430, .int .i64 t431, .int .i64 t432, .int .i64 t433] 31 (0, 0)) (by (with_reducible repeat (first | refine dN ?_ _ | refine dW ?_ | refine dA ?_ _)); refine blk_far ?_ NB434_452.out _; (with_reducible repeat (first | refine dN ?_ _ | refine dW ?_ | refine dA ?_ _)); refine blk_far ?_ NB434_452.out _; (with_reducible repeat (first | refine dN ?_ _ | refine dW ?_ | refine dA ?_ _)); exact BK434.out) hb); replace BK452 := Aside0.mk (blk_below (g := gb452) (o := .cells #[.int .i64 t450, .int .i64 t451] 41 (0, 0)) (by (with_reducible repeat (first | refine dN ?_ _ | refine dW ?_ | refine dA ?_ _)); refine blk_put (cs := #[.int .i64 t450, .int .i64 0]) ?_ 1 _ rfl; (with_reducible repeat (first | refine dN ?_ _ | refine dW ?_ | refine dA ?_ _)); refine blk_put (cs := #[.int .i64 0, .int .i64 0]) ?_ 0 _ rfl; (with_reducible repeat (first | refine dN ?_ _ | refine dW ?_ | refine dA ?_ _)); exact BK452.out) hb); replace HB := Aside0.mk (below_step (by repeat (first | (with_reducible first | exact HB.out | apply bA | apply bN | apply bD | refine bS ?_ GE434.out | refine bS ?_ GE452.out) | exact HB.out)) hb); (try clear hb); (try clear hb2); (try clear hk); (try clear hi); (try clear ho0)))
     go_loopg [10, 11] kj5 (fun kq v10 v11 w' => ∃ (x10_2 : Int) (x11_2 : Int), v10 = .int .i64 x10_2 ∧ v11 = .int .i64 x11_2 ∧ Aside0 (laws_FnFinds.l0 kq l0 t447 t453 x10_2 x11_2 t450 t451 = some true) ∧ Aside0 (kq ≤ kj5) ∧ Aside0 (Kd.R k31 31 w' w.heap.size (fun k_ => k_ ≠ gb434) (.slice Ao63 t447.length co63) t447) ∧ Aside0 (Kd.R (Kd.int .i64) 3 w' w.heap.size (fun _ => True) v454 t453) ∧ Aside0 (w'.heap[gb434]? = some (.cells #[.int .i64 t426, .int .i64 t427, .int .i64 t428, .int .i64 t429, .int .i64 t430, .int .i64 t431, .int .i64 t432, .int .i64 t433] 31 (0, 0))) ∧ Aside0 (w'.heap[gb452]? = some (.cells #[.int .i64 t450, .int .i64 t451] 41 (0, 0))) ∧ Aside0 (Below w.heap.size w w'))
     case atStart => exact ⟨(0), (0), (by first | rfl | (simp; done) | (simp [*]; done)), (by first | rfl | (simp; done) | (simp [*]; done)), H', ⟨Nat.le_refl _⟩, ⟨by (with_reducible repeat (first | apply rA | apply rN | apply rD)); exact Kd.R_mono HO449.out (fun _ hk => hk.2)⟩, ⟨by (with_reducible repeat (first | apply rA | apply rN | apply rD)); exact HO455.out⟩, ⟨by (with_reducible repeat (first | refine dN ?_ _ | refine dW ?_ | refine dA ?_ _)); exact BK434.out⟩, ⟨by (with_reducible repeat (first | refine dN ?_ _ | refine dW ?_ | refine dA ?_ _)); exact BK452.out⟩, ⟨by repeat (first | (with_reducible first | exact HB.out | apply bA | apply bN | apply bD | refine bS ?_ GE434.out | refine bS ?_ GE452.out) | exact HB.out)⟩⟩
     case round =>
      clear H'
      try clear c1
      try clear c2
      try clear p2
      try clear c5
      try clear c6
      try clear c12
      try clear c20
      try clear c21
      try clear c56
      try clear c61
      try clear hcz62_0
      try clear hcz62_1
      try clear hfz62_0
      try clear hfz62_1
      try clear p2
      obtain ⟨x10_2, x11_2, rfl, rfl, HA, HK2, HO_7, HO_9, BK434, BK452, HB⟩ := hrel
      cases gk with
      | zero => exact absurd HA.out (by simp [laws_FnFinds.l0])
      | succ k2 =>
       have H := HA.out
       clear HA
       simp only [laws_FnFinds.l0] at H
       by_cases c65 : x11_2 < (t447.length : Int)
       ·rw [if_pos c65] at H
        have c65b0 : decide (x11_2 < (t447.length : Int)) = true := decide_eq_true c65
        clear c65
        by_cases c66 : 0 ≤ x11_2
        ·rw [if_pos c66] at H
         have c66b0 : decide (0 ≤ x11_2) = true := decide_eq_true c66
         clear c66
         replace H := obm H
         obtain ⟨t457, A670, H⟩ := H
         replace H : (if t457 = true then (laws_FnFinds.l0 k2 l0 t447 t453 (wrap64 (x10_2 + 1)) (wrap64 (x11_2 + 1)) t450 t451) else (laws_FnFinds.l0 k2 l0 t447 t453 x10_2 (wrap64 (x11_2 + 1)) t450 t451)) = some true := H
         have A67 := Aside0.mk A670
         clear A670
         by_cases c68 : t457 = true
         ·subst c68
          have H1 : (laws_FnFinds.l0 k2 l0 t447 t453 (wrap64 (x10_2 + 1)) (wrap64 (x11_2 + 1)) t450 t451) = some true := by rw [if_pos rfl] at H; exact H
          clear H
          have H := H1
          clear H1
          have H' := Aside0.mk H
          clear H
          try go_wp2
          replace HO_7 := Aside0.mk (Kd.R_drew HO_7.out); replace HO_9 := Aside0.mk (Kd.R_drew HO_9.out); replace BK434 := Aside0.mk (blk_drew BK434.out); replace BK452 := Aside0.mk (blk_drew BK452.out); replace HB := Aside0.mk (below_drew1 HB.out)
          have p456 : 0 ≤ (x11_2 : Int) := of_decide_eq_true (by first | (with_reducible assumption) | assumption)
          have q456 : x11_2 < (t447.length : Int) := of_decide_eq_true (by first | (with_reducible assumption) | assumption)
          obtain ⟨ad456, e456, hx456_0, hx456_1, hx456_2, hx456_3, hx456_4, hx456_5, hx456_6, hx456_7⟩ := at_T31 (Kd.R_reads' HO_7.out).2.2 x11_2 p456 q456
          cases e456
          replace p456 := eq_true p456
          replace q456 := eq_true q456
          refine start_ (n := 7) (S := fun w' => w'.cell? ⟨gb452, 0, none⟩ = some (.int .i64 t450) ∧ w'.cell? ⟨gb452, 1, none⟩ = some (.int .i64 t451) ∧ w'.cell? (ad456.add ((x11_2).toNat * 8)) = some (.int .i64 ((rd_T31 t447 x11_2).f0.f0)) ∧ w'.cell? ⟨(ad456.add ((x11_2).toNat * 8)).block, (ad456.add ((x11_2).toNat * 8)).off + 1, none⟩ = some (.int .i64 ((rd_T31 t447 x11_2).f0.f1)) ∧ w'.cell? ⟨(ad456.add ((x11_2).toNat * 8)).block, (ad456.add ((x11_2).toNat * 8)).off + 2, none⟩ = some (.int .i64 ((rd_T31 t447 x11_2).f0.f2)) ∧ w'.cell? ⟨(ad456.add ((x11_2).toNat * 8)).block, (ad456.add ((x11_2).toNat * 8)).off + 3, none⟩ = some (.int .i64 ((rd_T31 t447 x11_2).f0.f3)) ∧ w'.cell? ⟨(ad456.add ((x11_2).toNat * 8)).block, (ad456.add ((x11_2).toNat * 8)).off + 4, none⟩ = some (.int .i64 ((rd_T31 t447 x11_2).f0.f4)) ∧ w'.cell? ⟨(ad456.add ((x11_2).toNat * 8)).block, (ad456.add ((x11_2).toNat * 8)).off + 5, none⟩ = some (.int .i64 ((rd_T31 t447 x11_2).f1)) ∧ w'.cell? ⟨(ad456.add ((x11_2).toNat * 8)).block, (ad456.add ((x11_2).toNat * 8)).off + 6, none⟩ = some (.int .i64 ((rd_T31 t447 x11_2).f2)) ∧ w'.cell? ⟨(ad456.add ((x11_2).toNat * 8)).block, (ad456.add ((x11_2).toNat * 8)).off + 7, none⟩ = some (.int .i64 ((rd_T31 t447 x11_2).f3))) (ds := []) qq91 (by kernel_rfl) rfl rfl ⟨(blk_cell BK452.out 0).trans rfl, (blk_cell BK452.out 1).trans rfl, hx456_0, hx456_1, hx456_2, hx456_3, hx456_4, hx456_5, hx456_6, hx456_7⟩ (fun hHeld => ?_)
          generalize wr.drew = w69 at HO_7 HO_9 BK434 BK452 HB hx456_0 hx456_1 hx456_2 hx456_3 hx456_4 hx456_5 hx456_6 hx456_7 hHeld ⊢
          refine pure_ (i := 1) (N := some 98) (v := ?_) (a' := ?_) qq92 rfl rfl (by kernel_rfl) (fun _ _ _ h => h) (Or.inl ⟨by rfl, ?_⟩) ?_ ?_
          rotate_left; focus (intro w'; go_simp; with_reducible rfl)
          rotate_left; focus (simp only [Act.put, sA, sB, sC, i64_w, i32_w]; rfl)
          refine pure_ (i := 2) (N := some 99) (v := ?_) (a' := ?_) qq93 rfl rfl (by kernel_rfl) (fun _ _ _ h => h) (Or.inl ⟨by rfl, ?_⟩) ?_ ?_
          rotate_left; focus (intro w'; go_simp; with_reducible rfl)
          rotate_left; focus (simp only [Act.put, sA, sB, sC, i64_w, i32_w]; rfl)
          refine pure_ (i := 3) (N := some 100) (v := ?_) (a' := ?_) qq94 rfl rfl (by kernel_rfl) (fun _ _ _ h => h) (Or.inl ⟨by rfl, ?_⟩) ?_ ?_
          rotate_left; focus (intro w'; go_simp; with_reducible rfl)
          rotate_left; focus (simp only [Act.put, sA, sB, sC, i64_w, i32_w]; rfl)
          refine pure_ (i := 4) (N := some 101) (v := ?_) (a' := ?_) qq95 rfl rfl (by kernel_rfl) (fun _ _ _ h => h) (Or.inl ⟨by rfl, ?_⟩) ?_ ?_
          rotate_left; focus (intro w'; go_simp; with_reducible rfl)
          rotate_left; focus (simp only [Act.put, sA, sB, sC, i64_w, i32_w]; rfl)
          refine take_ (i := 0) (N := some 97) (v := ?_) (a' := ?_) qq96 rfl rfl (by kernel_rfl) (fun _ _ _ h => h) (Or.inl ⟨by rfl, ?_⟩) hHeld ?_ ?_
          rotate_left; focus (rintro w' ⟨s0, s1, s2, s3, s4, s5, s6, s7, s8, s9⟩; go_simp; with_reducible rfl)
          rotate_left; focus (simp only [Act.put, sA, sB, sC, i64_w, i32_w]; rfl)
          refine take_ (i := 5) (N := some 102) (v := ?_) (a' := ?_) qq97 rfl rfl (by kernel_rfl) (fun _ _ _ h => h) (Or.inl ⟨by rfl, ?_⟩) hHeld ?_ ?_
          rotate_left; focus (rintro w' ⟨s0, s1, s2, s3, s4, s5, s6, s7, s8, s9⟩; go_simp; with_reducible rfl)
          rotate_left; focus (simp only [Act.put, sA, sB, sC, i64_w, i32_w]; rfl)
          refine one_ (i := 6) (N := some 103) qq98 rfl rfl (by kernel_rfl) (by decide) (fun K hK => ?_)
          refine goes_ Try.func22 (by kernel_rfl) rfl #[.agg #[.int .i64 t450, .int .i64 t451], .int .i64 ((rd_T31 t447 x11_2).f2)] (by rfl) rfl rfl (by (try simp only [sD, sE, sF]); first | done | rfl) ?_
          with_reducible refine (impl_Holds.calls t450 t451 ((rd_T31 t447 x11_2).f2) true _ A67.out).mono ?_
          rintro e w70 ⟨rfl, hb⟩
          have HS2_ := (hb.cell (World.block_lt_of_cell? _ _ (hHeld.2.2.1))).trans (hHeld.2.2.1)
          have HS3_ := (hb.cell (World.block_lt_of_cell? _ _ (hHeld.2.2.2.1))).trans (hHeld.2.2.2.1)
          have HS4_ := (hb.cell (World.block_lt_of_cell? _ _ (hHeld.2.2.2.2.1))).trans (hHeld.2.2.2.2.1)
          have HS5_ := (hb.cell (World.block_lt_of_cell? _ _ (hHeld.2.2.2.2.2.1))).trans (hHeld.2.2.2.2.2.1)
          have HS6_ := (hb.cell (World.block_lt_of_cell? _ _ (hHeld.2.2.2.2.2.2.1))).trans (hHeld.2.2.2.2.2.2.1)
          have HS7_ := (hb.cell (World.block_lt_of_cell? _ _ (hHeld.2.2.2.2.2.2.2.1))).trans (hHeld.2.2.2.2.2.2.2.1)
          have HS8_ := (hb.cell (World.block_lt_of_cell? _ _ (hHeld.2.2.2.2.2.2.2.2.1))).trans (hHeld.2.2.2.2.2.2.2.2.1)
          have HS9_ := (hb.cell (World.block_lt_of_cell? _ _ (hHeld.2.2.2.2.2.2.2.2.2))).trans (hHeld.2.2.2.2.2.2.2.2.2)
          refine ⟨_, rfl, ?_⟩
          replace HO_7 := Aside0.mk (Kd.R_below (by (with_reducible repeat (first | apply rA | apply rN | apply rD)); exact HO_7.out) hb); replace HO_9 := Aside0.mk (Kd.R_below (by (with_reducible repeat (first | apply rA | apply rN | apply rD)); exact HO_9.out) hb)
          replace BK434 := qcb hb BK434; replace BK452 := qcb hb BK452
          replace HB := Aside0.mk (below_step (by repeat (first | (with_reducible first | exact HB.out | apply bA | apply bN | apply bD | refine bS ?_ GE434.out | refine bS ?_ GE452.out) | exact HB.out)) hb); (try clear hb); (try clear hb2); (try clear hk)
          (try clear hi)
          refine hK.out _ _ ⟨(blk_cell BK452.out 0).trans rfl, (blk_cell BK452.out 1).trans rfl, HS2_, HS3_, HS4_, HS5_, HS6_, HS7_, HS8_, HS9_⟩ (fun hHeld => ?_)
          clear hK K
          refine norm_ (a' := ?_) ?_ ?_
          rotate_left; focus (show Act.put _ (some 103) _ = _; simp only [Act.put, sA, sB, sC, i64_w, i32_w]; rfl)
          refine done_ (by kernel_rfl) ?_
          try go_wp2
          go_roundg k2
          case measure => have := HJ5.out; have := HK2.out; omega
          case rel => exact ⟨(wrap64 (x10_2 + 1)), (wrap64 (x11_2 + 1)), (by first | rfl | (simp; done) | (simp [*]; done)), (by first | rfl | (simp; done) | (simp [*]; done)), H', ⟨by have := HJ5.out; have := HK2.out; omega⟩, ⟨by (with_reducible repeat (first | apply rA | apply rN | apply rD)); exact HO_7.out⟩, ⟨by (with_reducible repeat (first | apply rA | apply rN | apply rD)); exact HO_9.out⟩, ⟨by (with_reducible repeat (first | refine dN ?_ _ | refine dW ?_ | refine dA ?_ _)); exact BK434.out⟩, ⟨by (with_reducible repeat (first | refine dN ?_ _ | refine dW ?_ | refine dA ?_ _)); exact BK452.out⟩, ⟨by repeat (first | (with_reducible first | exact HB.out | apply bA | apply bN | apply bD | refine bS ?_ GE434.out | refine bS ?_ GE452.out) | exact HB.out)⟩⟩
         ·replace c68 := Bool.eq_false_iff.mpr c68
          subst c68
          have H1 : (laws_FnFinds.l0 k2 l0 t447 t453 x10_2 (wrap64 (x11_2 + 1)) t450 t451) = some true := by rw [if_neg (show ¬ (false = true) by decide)] at H; exact H
          clear H
          have H := H1
          clear H1
          have H' := Aside0.mk H
          clear H
          try go_wp2
          replace HO_7 := Aside0.mk (Kd.R_drew HO_7.out); replace HO_9 := Aside0.mk (Kd.R_drew HO_9.out); replace BK434 := Aside0.mk (blk_drew BK434.out); replace BK452 := Aside0.mk (blk_drew BK452.out); replace HB := Aside0.mk (below_drew1 HB.out)
          have p456 : 0 ≤ (x11_2 : Int) := of_decide_eq_true (by first | (with_reducible assumption) | assumption)
          have q456 : x11_2 < (t447.length : Int) := of_decide_eq_true (by first | (with_reducible assumption) | assumption)
          obtain ⟨ad456, e456, hx456_0, hx456_1, hx456_2, hx456_3, hx456_4, hx456_5, hx456_6, hx456_7⟩ := at_T31 (Kd.R_reads' HO_7.out).2.2 x11_2 p456 q456
          cases e456
          replace p456 := eq_true p456
          replace q456 := eq_true q456
          refine start_ (n := 7) (S := fun w' => w'.cell? ⟨gb452, 0, none⟩ = some (.int .i64 t450) ∧ w'.cell? ⟨gb452, 1, none⟩ = some (.int .i64 t451) ∧ w'.cell? (ad456.add ((x11_2).toNat * 8)) = some (.int .i64 ((rd_T31 t447 x11_2).f0.f0)) ∧ w'.cell? ⟨(ad456.add ((x11_2).toNat * 8)).block, (ad456.add ((x11_2).toNat * 8)).off + 1, none⟩ = some (.int .i64 ((rd_T31 t447 x11_2).f0.f1)) ∧ w'.cell? ⟨(ad456.add ((x11_2).toNat * 8)).block, (ad456.add ((x11_2).toNat * 8)).off + 2, none⟩ = some (.int .i64 ((rd_T31 t447 x11_2).f0.f2)) ∧ w'.cell? ⟨(ad456.add ((x11_2).toNat * 8)).block, (ad456.add ((x11_2).toNat * 8)).off + 3, none⟩ = some (.int .i64 ((rd_T31 t447 x11_2).f0.f3)) ∧ w'.cell? ⟨(ad456.add ((x11_2).toNat * 8)).block, (ad456.add ((x11_2).toNat * 8)).off + 4, none⟩ = some (.int .i64 ((rd_T31 t447 x11_2).f0.f4)) ∧ w'.cell? ⟨(ad456.add ((x11_2).toNat * 8)).block, (ad456.add ((x11_2).toNat * 8)).off + 5, none⟩ = some (.int .i64 ((rd_T31 t447 x11_2).f1)) ∧ w'.cell? ⟨(ad456.add ((x11_2).toNat * 8)).block, (ad456.add ((x11_2).toNat * 8)).off + 6, none⟩ = some (.int .i64 ((rd_T31 t447 x11_2).f2)) ∧ w'.cell? ⟨(ad456.add ((x11_2).toNat * 8)).block, (ad456.add ((x11_2).toNat * 8)).off + 7, none⟩ = some (.int .i64 ((rd_T31 t447 x11_2).f3))) (ds := []) qq91 (by kernel_rfl) rfl rfl ⟨(blk_cell BK452.out 0).trans rfl, (blk_cell BK452.out 1).trans rfl, hx456_0, hx456_1, hx456_2, hx456_3, hx456_4, hx456_5, hx456_6, hx456_7⟩ (fun hHeld => ?_)
          generalize wr.drew = w71 at HO_7 HO_9 BK434 BK452 HB hx456_0 hx456_1 hx456_2 hx456_3 hx456_4 hx456_5 hx456_6 hx456_7 hHeld ⊢
          refine pure_ (i := 1) (N := some 98) (v := ?_) (a' := ?_) qq92 rfl rfl (by kernel_rfl) (fun _ _ _ h => h) (Or.inl ⟨by rfl, ?_⟩) ?_ ?_
          rotate_left; focus (intro w'; go_simp; with_reducible rfl)
          rotate_left; focus (simp only [Act.put, sA, sB, sC, i64_w, i32_w]; rfl)
          refine pure_ (i := 2) (N := some 99) (v := ?_) (a' := ?_) qq93 rfl rfl (by kernel_rfl) (fun _ _ _ h => h) (Or.inl ⟨by rfl, ?_⟩) ?_ ?_
          rotate_left; focus (intro w'; go_simp; with_reducible rfl)
          rotate_left; focus (simp only [Act.put, sA, sB, sC, i64_w, i32_w]; rfl)
          refine pure_ (i := 3) (N := some 100) (v := ?_) (a' := ?_) qq94 rfl rfl (by kernel_rfl) (fun _ _ _ h => h) (Or.inl ⟨by rfl, ?_⟩) ?_ ?_
          rotate_left; focus (intro w'; go_simp; with_reducible rfl)
          rotate_left; focus (simp only [Act.put, sA, sB, sC, i64_w, i32_w]; rfl)
          refine pure_ (i := 4) (N := some 101) (v := ?_) (a' := ?_) qq95 rfl rfl (by kernel_rfl) (fun _ _ _ h => h) (Or.inl ⟨by rfl, ?_⟩) ?_ ?_
          rotate_left; focus (intro w'; go_simp; with_reducible rfl)
          rotate_left; focus (simp only [Act.put, sA, sB, sC, i64_w, i32_w]; rfl)
          refine take_ (i := 0) (N := some 97) (v := ?_) (a' := ?_) qq96 rfl rfl (by kernel_rfl) (fun _ _ _ h => h) (Or.inl ⟨by rfl, ?_⟩) hHeld ?_ ?_
          rotate_left; focus (rintro w' ⟨s0, s1, s2, s3, s4, s5, s6, s7, s8, s9⟩; go_simp; with_reducible rfl)
          rotate_left; focus (simp only [Act.put, sA, sB, sC, i64_w, i32_w]; rfl)
          refine take_ (i := 5) (N := some 102) (v := ?_) (a' := ?_) qq97 rfl rfl (by kernel_rfl) (fun _ _ _ h => h) (Or.inl ⟨by rfl, ?_⟩) hHeld ?_ ?_
          rotate_left; focus (rintro w' ⟨s0, s1, s2, s3, s4, s5, s6, s7, s8, s9⟩; go_simp; with_reducible rfl)
          rotate_left; focus (simp only [Act.put, sA, sB, sC, i64_w, i32_w]; rfl)
          refine one_ (i := 6) (N := some 103) qq98 rfl rfl (by kernel_rfl) (by decide) (fun K hK => ?_)
          refine goes_ Try.func22 (by kernel_rfl) rfl #[.agg #[.int .i64 t450, .int .i64 t451], .int .i64 ((rd_T31 t447 x11_2).f2)] (by rfl) rfl rfl (by (try simp only [sD, sE, sF]); first | done | rfl) ?_
          with_reducible refine (impl_Holds.calls t450 t451 ((rd_T31 t447 x11_2).f2) false _ A67.out).mono ?_
          rintro e w72 ⟨rfl, hb⟩
          have HS2_ := (hb.cell (World.block_lt_of_cell? _ _ (hHeld.2.2.1))).trans (hHeld.2.2.1)
          have HS3_ := (hb.cell (World.block_lt_of_cell? _ _ (hHeld.2.2.2.1))).trans (hHeld.2.2.2.1)
          have HS4_ := (hb.cell (World.block_lt_of_cell? _ _ (hHeld.2.2.2.2.1))).trans (hHeld.2.2.2.2.1)
          have HS5_ := (hb.cell (World.block_lt_of_cell? _ _ (hHeld.2.2.2.2.2.1))).trans (hHeld.2.2.2.2.2.1)
          have HS6_ := (hb.cell (World.block_lt_of_cell? _ _ (hHeld.2.2.2.2.2.2.1))).trans (hHeld.2.2.2.2.2.2.1)
          have HS7_ := (hb.cell (World.block_lt_of_cell? _ _ (hHeld.2.2.2.2.2.2.2.1))).trans (hHeld.2.2.2.2.2.2.2.1)
          have HS8_ := (hb.cell (World.block_lt_of_cell? _ _ (hHeld.2.2.2.2.2.2.2.2.1))).trans (hHeld.2.2.2.2.2.2.2.2.1)
          have HS9_ := (hb.cell (World.block_lt_of_cell? _ _ (hHeld.2.2.2.2.2.2.2.2.2))).trans (hHeld.2.2.2.2.2.2.2.2.2)
          refine ⟨_, rfl, ?_⟩
          replace HO_7 := Aside0.mk (Kd.R_below (by (with_reducible repeat (first | apply rA | apply rN | apply rD)); exact HO_7.out) hb); replace HO_9 := Aside0.mk (Kd.R_below (by (with_reducible repeat (first | apply rA | apply rN | apply rD)); exact HO_9.out) hb)
          replace BK434 := qcb hb BK434; replace BK452 := qcb hb BK452
          replace HB := Aside0.mk (below_step (by repeat (first | (with_reducible first | exact HB.out | apply bA | apply bN | apply bD | refine bS ?_ GE434.out | refine bS ?_ GE452.out) | exact HB.out)) hb); (try clear hb); (try clear hb2); (try clear hk)
          (try clear hi)
          refine hK.out _ _ ⟨(blk_cell BK452.out 0).trans rfl, (blk_cell BK452.out 1).trans rfl, HS2_, HS3_, HS4_, HS5_, HS6_, HS7_, HS8_, HS9_⟩ (fun hHeld => ?_)
          clear hK K
          refine norm_ (a' := ?_) ?_ ?_
          rotate_left; focus (show Act.put _ (some 103) _ = _; simp only [Act.put, sA, sB, sC, i64_w, i32_w]; rfl)
          refine done_ (by kernel_rfl) ?_
          try go_wp2
          go_roundg k2
          case measure => have := HJ5.out; have := HK2.out; omega
          case rel => exact ⟨(x10_2), (wrap64 (x11_2 + 1)), (by first | rfl | (simp; done) | (simp [*]; done)), (by first | rfl | (simp; done) | (simp [*]; done)), H', ⟨by have := HJ5.out; have := HK2.out; omega⟩, ⟨by (with_reducible repeat (first | apply rA | apply rN | apply rD)); exact HO_7.out⟩, ⟨by (with_reducible repeat (first | apply rA | apply rN | apply rD)); exact HO_9.out⟩, ⟨by (with_reducible repeat (first | refine dN ?_ _ | refine dW ?_ | refine dA ?_ _)); exact BK434.out⟩, ⟨by (with_reducible repeat (first | refine dN ?_ _ | refine dW ?_ | refine dA ?_ _)); exact BK452.out⟩, ⟨by repeat (first | (with_reducible first | exact HB.out | apply bA | apply bN | apply bD | refine bS ?_ GE434.out | refine bS ?_ GE452.out) | exact HB.out)⟩⟩
        ·rw [if_neg c66] at H
         exact absurd H (by simp)
       ·rw [if_neg c65] at H
        have c65b0 : decide (x11_2 < (t447.length : Int)) = false := decide_eq_false c65
        clear c65
        replace H := obm H
        obtain ⟨⟨t458, t459⟩, A730, H⟩ := H
        replace H : (if x10_2 = (t453.length : Int) then ((impl_AreFinds.f k2 t447).bind fun t462 => (if t462 = true then ((laws_ascends.f k2 t453).bind fun t463 => (if t463 = true then ((impl_AreFinds.f k2 t458).bind fun t464 => (if t464 = true then ((impl_FoundAt.f k2 t458 t459).bind fun t465 => ((laws_ascends.f k2 t465).bind fun t468 => (some t468))) else (some true))) else (some false))) else ((impl_AreFinds.f k2 t458).bind fun t469 => (if t469 = true then ((impl_FoundAt.f k2 t458 t459).bind fun t470 => ((laws_ascends.f k2 t470).bind fun t473 => (some t473))) else (some true))))) else (some false)) = some true := H
        have A73 := Aside0.mk A730
        clear A730
        by_cases c74 : x10_2 = (t453.length : Int)
        ·rw [if_pos c74] at H
         have c74b0 : (x10_2 == (t453.length : Int)) = true := beq_iff_eq.mpr c74
         have c74b1 : (x10_2 != (t453.length : Int)) = false := bne_eq_false_iff_eq.mpr c74
         clear c74
         replace H := obm H
         obtain ⟨t462, A750, H⟩ := H
         replace H : (if t462 = true then ((laws_ascends.f k2 t453).bind fun t463 => (if t463 = true then ((impl_AreFinds.f k2 t458).bind fun t464 => (if t464 = true then ((impl_FoundAt.f k2 t458 t459).bind fun t465 => ((laws_ascends.f k2 t465).bind fun t468 => (some t468))) else (some true))) else (some false))) else ((impl_AreFinds.f k2 t458).bind fun t469 => (if t469 = true then ((impl_FoundAt.f k2 t458 t459).bind fun t470 => ((laws_ascends.f k2 t470).bind fun t473 => (some t473))) else (some true)))) = some true := H
         have A75 := Aside0.mk A750
         clear A750
         by_cases c76 : t462 = true
         ·subst c76
          have H1 : ((laws_ascends.f k2 t453).bind fun t463 => (if t463 = true then ((impl_AreFinds.f k2 t458).bind fun t464 => (if t464 = true then ((impl_FoundAt.f k2 t458 t459).bind fun t465 => ((laws_ascends.f k2 t465).bind fun t468 => (some t468))) else (some true))) else (some false))) = some true := by rw [if_pos rfl] at H; exact H
          clear H
          have H := H1
          clear H1
          replace H := obm H
          obtain ⟨t463, A770, H⟩ := H
          replace H : (if t463 = true then ((impl_AreFinds.f k2 t458).bind fun t464 => (if t464 = true then ((impl_FoundAt.f k2 t458 t459).bind fun t465 => ((laws_ascends.f k2 t465).bind fun t468 => (some t468))) else (some true))) else (some false)) = some true := H
          have A77 := Aside0.mk A770
          clear A770
          by_cases c78 : t463 = true
          ·subst c78
           have H1 : ((impl_AreFinds.f k2 t458).bind fun t464 => (if t464 = true then ((impl_FoundAt.f k2 t458 t459).bind fun t465 => ((laws_ascends.f k2 t465).bind fun t468 => (some t468))) else (some true))) = some true := by rw [if_pos rfl] at H; exact H
           clear H
           have H := H1
           clear H1
           replace H := obm H
           obtain ⟨t464, A790, H⟩ := H
           replace H : (if t464 = true then ((impl_FoundAt.f k2 t458 t459).bind fun t465 => ((laws_ascends.f k2 t465).bind fun t468 => (some t468))) else (some true)) = some true := H
           have A79 := Aside0.mk A790
           clear A790
           by_cases c80 : t464 = true
           ·subst c80
            have H1 : ((impl_FoundAt.f k2 t458 t459).bind fun t465 => ((laws_ascends.f k2 t465).bind fun t468 => (some t468))) = some true := by rw [if_pos rfl] at H; exact H
            clear H
            have H := H1
            clear H1
            replace H := obm H
            obtain ⟨t465, A810, H⟩ := H
            replace H : ((laws_ascends.f k2 t465).bind fun t468 => (some t468)) = some true := H
            have A81 := Aside0.mk A810
            clear A810
            replace H := obm H
            obtain ⟨t468, A820, H⟩ := H
            replace H : (some t468) = some true := H
            have A82 := Aside0.mk A820
            clear A820
            obtain rfl := Option.some.inj H
            go_wp2_with (first | ((with_reducible refine gate_callee (f := 23) rfl ?_); refine goesL_ (some 108) rfl rfl Try.func23 (by kernel_rfl) rfl #[.slice A0 l0.length c0] rfl (by (try simp only [sD, sE, sF]); first | done | rfl) ?_; (with_reducible refine (spec_DrawFoundAt.calls k2 _ _ l0 t458 t459 _ ?side1 ?side2 A73.out).mono ?_); (case side1 => repeat (first | exact (Kd.C_below HR0.out HB.out) | (with_reducible refine cA ?_ _) | (with_reducible refine cN ?_ _) | (with_reducible refine cD ?_))); (case side2 => exact HC0.out); rintro e w83 ⟨v460, rfl, ho0, hb⟩; refine ⟨_, rfl, ?_⟩; replace HO_9 := Aside0.mk (Kd.R_below (by (with_reducible repeat (first | apply rA | apply rN | apply rD)); exact HO_9.out) hb); have HO461 := Aside0.mk (Kd.R_lower (Kd.R_newB (Kd.R_new' ho0 (Kd.R_lt (by (with_reducible repeat (first | apply rA | apply rN | apply rD)); exact HO_7.out))) (g := gb434) (o := .cells #[.int .i64 t426, .int .i64 t427, .int .i64 t428, .int .i64 t429, .int .i64 t430, .int .i64 t431, .int .i64 t432, .int .i64 t433] 31 (0, 0)) (by (with_reducible repeat (first | refine dN ?_ _ | refine dW ?_ | refine dA ?_ _)); exact BK434.out)) (below_size (by repeat (first | (with_reducible first | exact HB.out | apply bA | apply bN | apply bD | refine bS ?_ GE434.out | refine bS ?_ GE452.out) | exact HB.out)))); replace HO_7 := Aside0.mk (Kd.R_elder' (by (with_reducible repeat (first | apply rA | apply rN | apply rD)); exact HO_7.out) (Kd.R_base ho0) hb); replace BK434 := qcb hb BK434; replace BK452 := qcb hb BK452; replace HB := Aside0.mk (below_step (by repeat (first | (with_reducible first | exact HB.out | apply bA | apply bN | apply bD | refine bS ?_ GE434.out | refine bS ?_ GE452.out) | exact HB.out)) hb); (try clear hb); (try clear hb2); (try clear hk); (try clear hi); (try clear ho0); obtain ⟨Ao84, co84, eo84⟩ := Kd.R_slice HO_9.out; subst eo84) | (go_at_call 16; (with_reducible refine (impl_AreFinds.calls k2 _ _ t447 true _ ?side1 ?side2 A75.out).mono ?_); (case side1 => repeat (first | exact (Kd.R_reads' HO_7.out).2.2 | (with_reducible refine cA ?_ _) | (with_reducible refine cN ?_ _) | (with_reducible refine cD ?_))); (case side2 => exact (Kd.R_reads' HO_7.out).2.1); rintro e w85 ⟨rfl, hb⟩; replace HO_7 := Aside0.mk (Kd.R_below (by (with_reducible repeat (first | apply rA | apply rN | apply rD)); exact HO_7.out) hb); replace HO_9 := Aside0.mk (Kd.R_below (by (with_reducible repeat (first | apply rA | apply rN | apply rD)); exact HO_9.out) hb); replace HO461 := Aside0.mk (Kd.R_below (by (with_reducible repeat (first | apply rA | apply rN | apply rD)); exact HO461.out) hb); replace BK434 := qcb hb BK434; replace BK452 := qcb hb BK452; replace HB := Aside0.mk (below_step (by repeat (first | (with_reducible first | exact HB.out | apply bA | apply bN | apply bD | refine bS ?_ GE434.out | refine bS ?_ GE452.out) | exact HB.out)) hb); (try clear hb); (try clear hb2); (try clear hk); (try clear hi)) | (go_at_call 24; (with_reducible refine (laws_ascends.calls k2 _ _ t453 true _ ?side1 ?side2 A77.out).mono ?_); (case side1 => repeat (first | exact (Kd.R_reads' HO_9.out).2.2 | (with_reducible refine cA ?_ _) | (with_reducible refine cN ?_ _) | (with_reducible refine cD ?_))); (case side2 => exact (Kd.R_reads' HO_9.out).2.1); rintro e w' ⟨rfl, ⟨nd, rfl⟩⟩; obtain ⟨Ao86, co86, eo86⟩ := Kd.R_slice HO461.out; subst eo86) | (go_at_call 16; (with_reducible refine (impl_AreFinds.calls k2 _ _ t458 true _ ?side1 ?side2 A79.out).mono ?_); (case side1 => repeat (first | exact (Kd.R_reads' HO461.out).2.2 | (with_reducible refine cA ?_ _) | (with_reducible refine cN ?_ _) | (with_reducible refine cD ?_))); (case side2 => exact (Kd.R_reads' HO461.out).2.1); rintro e w87 ⟨rfl, hb⟩; replace HO_7 := Aside0.mk (Kd.R_below (by (with_reducible repeat (first | apply rA | apply rN | apply rD)); exact HO_7.out) hb); replace HO_9 := Aside0.mk (Kd.R_below (by (with_reducible repeat (first | apply rA | apply rN | apply rD)); exact HO_9.out) hb); replace HO461 := Aside0.mk (Kd.R_below (by (with_reducible repeat (first | apply rA | apply rN | apply rD)); exact HO461.out) hb); replace BK434 := qcb hb BK434; replace BK452 := qcb hb BK452; replace HB := Aside0.mk (below_step (by repeat (first | (with_reducible first | exact HB.out | apply bA | apply bN | apply bD | refine bS ?_ GE434.out | refine bS ?_ GE452.out) | exact HB.out)) hb); (try clear hb); (try clear hb2); (try clear hk); (try clear hi)) | (go_at_call 19; (with_reducible refine (impl_FoundAt.calls k2 _ _ t458 t459 t465 _ ?side1 ?side2 A81.out).mono ?_); (case side1 => repeat (first | exact (Kd.R_reads' HO461.out).2.2 | (with_reducible refine cA ?_ _) | (with_reducible refine cN ?_ _) | (with_reducible refine cD ?_))); (case side2 => exact (Kd.R_reads' HO461.out).2.1); rintro e w88 ⟨v466, rfl, ho0, hb⟩; replace HO_7 := Aside0.mk (Kd.R_below (by (with_reducible repeat (first | apply rA | apply rN | apply rD)); exact HO_7.out) hb); replace HO461 := Aside0.mk (Kd.R_below (by (with_reducible repeat (first | apply rA | apply rN | apply rD)); exact HO461.out) hb); have HO467 := Aside0.mk (Kd.R_lower (Kd.R_new' ho0 (Kd.R_lt (by (with_reducible repeat (first | apply rA | apply rN | apply rD)); exact HO_9.out))) (below_size (by repeat (first | (with_reducible first | exact HB.out | apply bA | apply bN | apply bD | refine bS ?_ GE434.out | refine bS ?_ GE452.out) | exact HB.out)))); replace HO_9 := Aside0.mk (Kd.R_elder' (by (with_reducible repeat (first | apply rA | apply rN | apply rD)); exact HO_9.out) (Kd.R_base ho0) hb); replace BK434 := qcb hb BK434; replace BK452 := qcb hb BK452; replace HB := Aside0.mk (below_step (by repeat (first | (with_reducible first | exact HB.out | apply bA | apply bN | apply bD | refine bS ?_ GE434.out | refine bS ?_ GE452.out) | exact HB.out)) hb); (try clear hb); (try clear hb2); (try clear hk); (try clear hi); (try clear ho0); obtain ⟨Ao89, co89, eo89⟩ := Kd.R_slice HO467.out; subst eo89) | (go_at_call 24; (with_reducible refine (laws_ascends.calls k2 _ _ t465 true _ ?side1 ?side2 A82.out).mono ?_); (case side1 => repeat (first | exact (Kd.R_reads' HO467.out).2.2 | (with_reducible refine cA ?_ _) | (with_reducible refine cN ?_ _) | (with_reducible refine cD ?_))); (case side2 => exact (Kd.R_reads' HO467.out).2.1); rintro e w' ⟨rfl, ⟨nd, rfl⟩⟩))
            go_ret
            exact ⟨by first | rfl | (simp [errW_none, errW_some] <;> rfl) | (simp [*, errW_none, errW_some] <;> rfl), by repeat (first | (with_reducible first | exact HB.out | apply bA | apply bN | apply bD | refine bS ?_ GE434.out | refine bS ?_ GE452.out) | exact HB.out)⟩
           ·replace c80 := Bool.eq_false_iff.mpr c80
            subst c80
            have H1 : (some true) = some true := rfl
            clear H
            have H := H1
            clear H1; clear H
            go_wp2_with (first | ((with_reducible refine gate_callee (f := 23) rfl ?_); refine goesL_ (some 108) rfl rfl Try.func23 (by kernel_rfl) rfl #[.slice A0 l0.length c0] rfl (by (try simp only [sD, sE, sF]); first | done | rfl) ?_; (with_reducible refine (spec_DrawFoundAt.calls k2 _ _ l0 t458 t459 _ ?side1 ?side2 A73.out).mono ?_); (case side1 => repeat (first | exact (Kd.C_below HR0.out HB.out) | (with_reducible refine cA ?_ _) | (with_reducible refine cN ?_ _) | (with_reducible refine cD ?_))); (case side2 => exact HC0.out); rintro e w90 ⟨v460, rfl, ho0, hb⟩; refine ⟨_, rfl, ?_⟩; replace HO_9 := Aside0.mk (Kd.R_below (by (with_reducible repeat (first | apply rA | apply rN | apply rD)); exact HO_9.out) hb); have HO461 := Aside0.mk (Kd.R_lower (Kd.R_newB (Kd.R_new' ho0 (Kd.R_lt (by (with_reducible repeat (first | apply rA | apply rN | apply rD)); exact HO_7.out))) (g := gb434) (o := .cells #[.int .i64 t426, .int .i64 t427, .int .i64 t428, .int .i64 t429, .int .i64 t430, .int .i64 t431, .int .i64 t432, .int .i64 t433] 31 (0, 0)) (by (with_reducible repeat (first | refine dN ?_ _ | refine dW ?_ | refine dA ?_ _)); exact BK434.out)) (below_size (by repeat (first | (with_reducible first | exact HB.out | apply bA | apply bN | apply bD | refine bS ?_ GE434.out | refine bS ?_ GE452.out) | exact HB.out)))); replace HO_7 := Aside0.mk (Kd.R_elder' (by (with_reducible repeat (first | apply rA | apply rN | apply rD)); exact HO_7.out) (Kd.R_base ho0) hb); replace BK434 := qcb hb BK434; replace BK452 := qcb hb BK452; replace HB := Aside0.mk (below_step (by repeat (first | (with_reducible first | exact HB.out | apply bA | apply bN | apply bD | refine bS ?_ GE434.out | refine bS ?_ GE452.out) | exact HB.out)) hb); (try clear hb); (try clear hb2); (try clear hk); (try clear hi); (try clear ho0); obtain ⟨Ao91, co91, eo91⟩ := Kd.R_slice HO_9.out; subst eo91) | (go_at_call 16; (with_reducible refine (impl_AreFinds.calls k2 _ _ t447 true _ ?side1 ?side2 A75.out).mono ?_); (case side1 => repeat (first | exact (Kd.R_reads' HO_7.out).2.2 | (with_reducible refine cA ?_ _) | (with_reducible refine cN ?_ _) | (with_reducible refine cD ?_))); (case side2 => exact (Kd.R_reads' HO_7.out).2.1); rintro e w92 ⟨rfl, hb⟩; replace HO_7 := Aside0.mk (Kd.R_below (by (with_reducible repeat (first | apply rA | apply rN | apply rD)); exact HO_7.out) hb); replace HO_9 := Aside0.mk (Kd.R_below (by (with_reducible repeat (first | apply rA | apply rN | apply rD)); exact HO_9.out) hb); replace HO461 := Aside0.mk (Kd.R_below (by (with_reducible repeat (first | apply rA | apply rN | apply rD)); exact HO461.out) hb); replace BK434 := qcb hb BK434; replace BK452 := qcb hb BK452; replace HB := Aside0.mk (below_step (by repeat (first | (with_reducible first | exact HB.out | apply bA | apply bN | apply bD | refine bS ?_ GE434.out | refine bS ?_ GE452.out) | exact HB.out)) hb); (try clear hb); (try clear hb2); (try clear hk); (try clear hi)) | (go_at_call 24; (with_reducible refine (laws_ascends.calls k2 _ _ t453 true _ ?side1 ?side2 A77.out).mono ?_); (case side1 => repeat (first | exact (Kd.R_reads' HO_9.out).2.2 | (with_reducible refine cA ?_ _) | (with_reducible refine cN ?_ _) | (with_reducible refine cD ?_))); (case side2 => exact (Kd.R_reads' HO_9.out).2.1); rintro e w' ⟨rfl, ⟨nd, rfl⟩⟩; obtain ⟨Ao93, co93, eo93⟩ := Kd.R_slice HO461.out; subst eo93) | (go_at_call 16; (with_reducible refine (impl_AreFinds.calls k2 _ _ t458 false _ ?side1 ?side2 A79.out).mono ?_); (case side1 => repeat (first | exact (Kd.R_reads' HO461.out).2.2 | (with_reducible refine cA ?_ _) | (with_reducible refine cN ?_ _) | (with_reducible refine cD ?_))); (case side2 => exact (Kd.R_reads' HO461.out).2.1); rintro e w94 ⟨rfl, hb⟩; replace HO_7 := Aside0.mk (Kd.R_below (by (with_reducible repeat (first | apply rA | apply rN | apply rD)); exact HO_7.out) hb); replace HO_9 := Aside0.mk (Kd.R_below (by (with_reducible repeat (first | apply rA | apply rN | apply rD)); exact HO_9.out) hb); replace HO461 := Aside0.mk (Kd.R_below (by (with_reducible repeat (first | apply rA | apply rN | apply rD)); exact HO461.out) hb); replace BK434 := qcb hb BK434; replace BK452 := qcb hb BK452; replace HB := Aside0.mk (below_step (by repeat (first | (with_reducible first | exact HB.out | apply bA | apply bN | apply bD | refine bS ?_ GE434.out | refine bS ?_ GE452.out) | exact HB.out)) hb); (try clear hb); (try clear hb2); (try clear hk); (try clear hi)))
            go_ret
            exact ⟨by first | rfl | (simp [errW_none, errW_some] <;> rfl) | (simp [*, errW_none, errW_some] <;> rfl), by repeat (first | (with_reducible first | exact HB.out | apply bA | apply bN | apply bD | refine bS ?_ GE434.out | refine bS ?_ GE452.out) | exact HB.out)⟩
          ·replace c78 := Bool.eq_false_iff.mpr c78
           subst c78
           have H1 : (some false) = some true := by rw [if_neg (show ¬ (false = true) by decide)] at H; exact H
           clear H
           have H := H1
           clear H1
           exact absurd (Option.some.inj H) (by decide)
         ·replace c76 := Bool.eq_false_iff.mpr c76
          subst c76
          have H1 : ((impl_AreFinds.f k2 t458).bind fun t469 => (if t469 = true then ((impl_FoundAt.f k2 t458 t459).bind fun t470 => ((laws_ascends.f k2 t470).bind fun t473 => (some t473))) else (some true))) = some true := by rw [if_neg (show ¬ (false = true) by decide)] at H; exact H
          clear H
          have H := H1
          clear H1
          replace H := obm H
          obtain ⟨t469, A980, H⟩ := H
          replace H : (if t469 = true then ((impl_FoundAt.f k2 t458 t459).bind fun t470 => ((laws_ascends.f k2 t470).bind fun t473 => (some t473))) else (some true)) = some true := H
          have A98 := Aside0.mk A980
          clear A980
          by_cases c99 : t469 = true
          ·subst c99
           have H1 : ((impl_FoundAt.f k2 t458 t459).bind fun t470 => ((laws_ascends.f k2 t470).bind fun t473 => (some t473))) = some true := by rw [if_pos rfl] at H; exact H
           clear H
           have H := H1
           clear H1
           replace H := obm H
           obtain ⟨t470, A1000, H⟩ := H
           replace H : ((laws_ascends.f k2 t470).bind fun t473 => (some t473)) = some true := H
           have A100 := Aside0.mk A1000
           clear A1000
           replace H := obm H
           obtain ⟨t473, A1010, H⟩ := H
           replace H : (some t473) = some true := H
           have A101 := Aside0.mk A1010
           clear A1010
           obtain rfl := Option.some.inj H
           go_wp2_with (first | ((with_reducible refine gate_callee (f := 23) rfl ?_); refine goesL_ (some 108) rfl rfl Try.func23 (by kernel_rfl) rfl #[.slice A0 l0.length c0] rfl (by (try simp only [sD, sE, sF]); first | done | rfl) ?_; (with_reducible refine (spec_DrawFoundAt.calls k2 _ _ l0 t458 t459 _ ?side1 ?side2 A73.out).mono ?_); (case side1 => repeat (first | exact (Kd.C_below HR0.out HB.out) | (with_reducible refine cA ?_ _) | (with_reducible refine cN ?_ _) | (with_reducible refine cD ?_))); (case side2 => exact HC0.out); rintro e w102 ⟨v460, rfl, ho0, hb⟩; refine ⟨_, rfl, ?_⟩; replace HO_9 := Aside0.mk (Kd.R_below (by (with_reducible repeat (first | apply rA | apply rN | apply rD)); exact HO_9.out) hb); have HO461 := Aside0.mk (Kd.R_lower (Kd.R_newB (Kd.R_new' ho0 (Kd.R_lt (by (with_reducible repeat (first | apply rA | apply rN | apply rD)); exact HO_7.out))) (g := gb434) (o := .cells #[.int .i64 t426, .int .i64 t427, .int .i64 t428, .int .i64 t429, .int .i64 t430, .int .i64 t431, .int .i64 t432, .int .i64 t433] 31 (0, 0)) (by (with_reducible repeat (first | refine dN ?_ _ | refine dW ?_ | refine dA ?_ _)); exact BK434.out)) (below_size (by repeat (first | (with_reducible first | exact HB.out | apply bA | apply bN | apply bD | refine bS ?_ GE434.out | refine bS ?_ GE452.out) | exact HB.out)))); replace HO_7 := Aside0.mk (Kd.R_elder' (by (with_reducible repeat (first | apply rA | apply rN | apply rD)); exact HO_7.out) (Kd.R_base ho0) hb); replace BK434 := qcb hb BK434; replace BK452 := qcb hb BK452; replace HB := Aside0.mk (below_step (by repeat (first | (with_reducible first | exact HB.out | apply bA | apply bN | apply bD | refine bS ?_ GE434.out | refine bS ?_ GE452.out) | exact HB.out)) hb); (try clear hb); (try clear hb2); (try clear hk); (try clear hi); (try clear ho0); obtain ⟨Ao103, co103, eo103⟩ := Kd.R_slice HO_9.out; subst eo103) | (go_at_call 16; (with_reducible refine (impl_AreFinds.calls k2 _ _ t447 false _ ?side1 ?side2 A75.out).mono ?_); (case side1 => repeat (first | exact (Kd.R_reads' HO_7.out).2.2 | (with_reducible refine cA ?_ _) | (with_reducible refine cN ?_ _) | (with_reducible refine cD ?_))); (case side2 => exact (Kd.R_reads' HO_7.out).2.1); rintro e w104 ⟨rfl, hb⟩; replace HO_7 := Aside0.mk (Kd.R_below (by (with_reducible repeat (first | apply rA | apply rN | apply rD)); exact HO_7.out) hb); replace HO_9 := Aside0.mk (Kd.R_below (by (with_reducible repeat (first | apply rA | apply rN | apply rD)); exact HO_9.out) hb); replace HO461 := Aside0.mk (Kd.R_below (by (with_reducible repeat (first | apply rA | apply rN | apply rD)); exact HO461.out) hb); replace BK434 := qcb hb BK434; replace BK452 := qcb hb BK452; replace HB := Aside0.mk (below_step (by repeat (first | (with_reducible first | exact HB.out | apply bA | apply bN | apply bD | refine bS ?_ GE434.out | refine bS ?_ GE452.out) | exact HB.out)) hb); (try clear hb); (try clear hb2); (try clear hk); (try clear hi); obtain ⟨Ao105, co105, eo105⟩ := Kd.R_slice HO461.out; subst eo105) | (go_at_call 16; (with_reducible refine (impl_AreFinds.calls k2 _ _ t458 true _ ?side1 ?side2 A98.out).mono ?_); (case side1 => repeat (first | exact (Kd.R_reads' HO461.out).2.2 | (with_reducible refine cA ?_ _) | (with_reducible refine cN ?_ _) | (with_reducible refine cD ?_))); (case side2 => exact (Kd.R_reads' HO461.out).2.1); rintro e w106 ⟨rfl, hb⟩; replace HO_7 := Aside0.mk (Kd.R_below (by (with_reducible repeat (first | apply rA | apply rN | apply rD)); exact HO_7.out) hb); replace HO_9 := Aside0.mk (Kd.R_below (by (with_reducible repeat (first | apply rA | apply rN | apply rD)); exact HO_9.out) hb); replace HO461 := Aside0.mk (Kd.R_below (by (with_reducible repeat (first | apply rA | apply rN | apply rD)); exact HO461.out) hb); replace BK434 := qcb hb BK434; replace BK452 := qcb hb BK452; replace HB := Aside0.mk (below_step (by repeat (first | (with_reducible first | exact HB.out | apply bA | apply bN | apply bD | refine bS ?_ GE434.out | refine bS ?_ GE452.out) | exact HB.out)) hb); (try clear hb); (try clear hb2); (try clear hk); (try clear hi)) | (go_at_call 19; (with_reducible refine (impl_FoundAt.calls k2 _ _ t458 t459 t470 _ ?side1 ?side2 A100.out).mono ?_); (case side1 => repeat (first | exact (Kd.R_reads' HO461.out).2.2 | (with_reducible refine cA ?_ _) | (with_reducible refine cN ?_ _) | (with_reducible refine cD ?_))); (case side2 => exact (Kd.R_reads' HO461.out).2.1); rintro e w107 ⟨v471, rfl, ho0, hb⟩; replace HO_7 := Aside0.mk (Kd.R_below (by (with_reducible repeat (first | apply rA | apply rN | apply rD)); exact HO_7.out) hb); replace HO461 := Aside0.mk (Kd.R_below (by (with_reducible repeat (first | apply rA | apply rN | apply rD)); exact HO461.out) hb); have HO472 := Aside0.mk (Kd.R_lower (Kd.R_new' ho0 (Kd.R_lt (by (with_reducible repeat (first | apply rA | apply rN | apply rD)); exact HO_9.out))) (below_size (by repeat (first | (with_reducible first | exact HB.out | apply bA | apply bN | apply bD | refine bS ?_ GE434.out | refine bS ?_ GE452.out) | exact HB.out)))); replace HO_9 := Aside0.mk (Kd.R_elder' (by (with_reducible repeat (first | apply rA | apply rN | apply rD)); exact HO_9.out) (Kd.R_base ho0) hb); replace BK434 := qcb hb BK434; replace BK452 := qcb hb BK452; replace HB := Aside0.mk (below_step (by repeat (first | (with_reducible first | exact HB.out | apply bA | apply bN | apply bD | refine bS ?_ GE434.out | refine bS ?_ GE452.out) | exact HB.out)) hb); (try clear hb); (try clear hb2); (try clear hk); (try clear hi); (try clear ho0); obtain ⟨Ao108, co108, eo108⟩ := Kd.R_slice HO472.out; subst eo108) | (go_at_call 24; (with_reducible refine (laws_ascends.calls k2 _ _ t470 true _ ?side1 ?side2 A101.out).mono ?_); (case side1 => repeat (first | exact (Kd.R_reads' HO472.out).2.2 | (with_reducible refine cA ?_ _) | (with_reducible refine cN ?_ _) | (with_reducible refine cD ?_))); (case side2 => exact (Kd.R_reads' HO472.out).2.1); rintro e w' ⟨rfl, ⟨nd, rfl⟩⟩))
           go_ret
           exact ⟨by first | rfl | (simp [errW_none, errW_some] <;> rfl) | (simp [*, errW_none, errW_some] <;> rfl), by repeat (first | (with_reducible first | exact HB.out | apply bA | apply bN | apply bD | refine bS ?_ GE434.out | refine bS ?_ GE452.out) | exact HB.out)⟩
          ·replace c99 := Bool.eq_false_iff.mpr c99
           subst c99
           have H1 : (some true) = some true := rfl
           clear H
           have H := H1
           clear H1; clear H
           go_wp2_with (first | ((with_reducible refine gate_callee (f := 23) rfl ?_); refine goesL_ (some 108) rfl rfl Try.func23 (by kernel_rfl) rfl #[.slice A0 l0.length c0] rfl (by (try simp only [sD, sE, sF]); first | done | rfl) ?_; (with_reducible refine (spec_DrawFoundAt.calls k2 _ _ l0 t458 t459 _ ?side1 ?side2 A73.out).mono ?_); (case side1 => repeat (first | exact (Kd.C_below HR0.out HB.out) | (with_reducible refine cA ?_ _) | (with_reducible refine cN ?_ _) | (with_reducible refine cD ?_))); (case side2 => exact HC0.out); rintro e w109 ⟨v460, rfl, ho0, hb⟩; refine ⟨_, rfl, ?_⟩; replace HO_9 := Aside0.mk (Kd.R_below (by (with_reducible repeat (first | apply rA | apply rN | apply rD)); exact HO_9.out) hb); have HO461 := Aside0.mk (Kd.R_lower (Kd.R_newB (Kd.R_new' ho0 (Kd.R_lt (by (with_reducible repeat (first | apply rA | apply rN | apply rD)); exact HO_7.out))) (g := gb434) (o := .cells #[.int .i64 t426, .int .i64 t427, .int .i64 t428, .int .i64 t429, .int .i64 t430, .int .i64 t431, .int .i64 t432, .int .i64 t433] 31 (0, 0)) (by (with_reducible repeat (first | refine dN ?_ _ | refine dW ?_ | refine dA ?_ _)); exact BK434.out)) (below_size (by repeat (first | (with_reducible first | exact HB.out | apply bA | apply bN | apply bD | refine bS ?_ GE434.out | refine bS ?_ GE452.out) | exact HB.out)))); replace HO_7 := Aside0.mk (Kd.R_elder' (by (with_reducible repeat (first | apply rA | apply rN | apply rD)); exact HO_7.out) (Kd.R_base ho0) hb); replace BK434 := qcb hb BK434; replace BK452 := qcb hb BK452; replace HB := Aside0.mk (below_step (by repeat (first | (with_reducible first | exact HB.out | apply bA | apply bN | apply bD | refine bS ?_ GE434.out | refine bS ?_ GE452.out) | exact HB.out)) hb); (try clear hb); (try clear hb2); (try clear hk); (try clear hi); (try clear ho0); obtain ⟨Ao110, co110, eo110⟩ := Kd.R_slice HO_9.out; subst eo110) | (go_at_call 16; (with_reducible refine (impl_AreFinds.calls k2 _ _ t447 false _ ?side1 ?side2 A75.out).mono ?_); (case side1 => repeat (first | exact (Kd.R_reads' HO_7.out).2.2 | (with_reducible refine cA ?_ _) | (with_reducible refine cN ?_ _) | (with_reducible refine cD ?_))); (case side2 => exact (Kd.R_reads' HO_7.out).2.1); rintro e w111 ⟨rfl, hb⟩; replace HO_7 := Aside0.mk (Kd.R_below (by (with_reducible repeat (first | apply rA | apply rN | apply rD)); exact HO_7.out) hb); replace HO_9 := Aside0.mk (Kd.R_below (by (with_reducible repeat (first | apply rA | apply rN | apply rD)); exact HO_9.out) hb); replace HO461 := Aside0.mk (Kd.R_below (by (with_reducible repeat (first | apply rA | apply rN | apply rD)); exact HO461.out) hb); replace BK434 := qcb hb BK434; replace BK452 := qcb hb BK452; replace HB := Aside0.mk (below_step (by repeat (first | (with_reducible first | exact HB.out | apply bA | apply bN | apply bD | refine bS ?_ GE434.out | refine bS ?_ GE452.out) | exact HB.out)) hb); (try clear hb); (try clear hb2); (try clear hk); (try clear hi); obtain ⟨Ao112, co112, eo112⟩ := Kd.R_slice HO461.out; subst eo112) | (go_at_call 16; (with_reducible refine (impl_AreFinds.calls k2 _ _ t458 false _ ?side1 ?side2 A98.out).mono ?_); (case side1 => repeat (first | exact (Kd.R_reads' HO461.out).2.2 | (with_reducible refine cA ?_ _) | (with_reducible refine cN ?_ _) | (with_reducible refine cD ?_))); (case side2 => exact (Kd.R_reads' HO461.out).2.1); rintro e w113 ⟨rfl, hb⟩; replace HO_7 := Aside0.mk (Kd.R_below (by (with_reducible repeat (first | apply rA | apply rN | apply rD)); exact HO_7.out) hb); replace HO_9 := Aside0.mk (Kd.R_below (by (with_reducible repeat (first | apply rA | apply rN | apply rD)); exact HO_9.out) hb); replace HO461 := Aside0.mk (Kd.R_below (by (with_reducible repeat (first | apply rA | apply rN | apply rD)); exact HO461.out) hb); replace BK434 := qcb hb BK434; replace BK452 := qcb hb BK452; replace HB := Aside0.mk (below_step (by repeat (first | (with_reducible first | exact HB.out | apply bA | apply bN | apply bD | refine bS ?_ GE434.out | refine bS ?_ GE452.out) | exact HB.out)) hb); (try clear hb); (try clear hb2); (try clear hk); (try clear hi)))
           go_ret
           exact ⟨by first | rfl | (simp [errW_none, errW_some] <;> rfl) | (simp [*, errW_none, errW_some] <;> rfl), by repeat (first | (with_reducible first | exact HB.out | apply bA | apply bN | apply bD | refine bS ?_ GE434.out | refine bS ?_ GE452.out) | exact HB.out)⟩
        ·rw [if_neg c74] at H
         have c74b0 : (x10_2 == (t453.length : Int)) = false := beq_eq_false_iff_ne.mpr c74
         have c74b1 : (x10_2 != (t453.length : Int)) = true := bne_iff_ne.mpr c74
         exact absurd (Option.some.inj H) (by decide)

end Go.Proofs.Ytkgdofogalfhjac.PFnFinds
