/- The law FnSpans called on values at which its printed function answers true returns true, and nothing that lay in memory before is changed; no other conditions. (Out of print.sh's own print of this law, which was too long for one file: the ways that end in false are struck.) -/
import Derived.Test.YtoocbgjcigadfabCudFnSpans
namespace Go.Proofs.Ytoocbgjcigadfab.PFnSpans
open Go.RowKit Go.Proofs.YtoocbgjcigadfabW.PrintWords Go.Proofs.YtoocbgjcigadfabW.PrintLast Go.Proofs.YtoocbgjcigadfabW.PrintMore
attribute [local go_sem] max2_int min2_int max_two min_two max_three min_three max_four min_four   -- for this text's walks alone
set_option linter.unusedVariables false
set_option linter.unusedSimpArgs false

set_option maxHeartbeats 8000000 in
set_option maxRecDepth 100000 in
theorem laws_FnSpans.calls (k : Nat) (A0 : Option Addr) (c0 : Nat) (l0 : List Int) (r : Bool) (w : World) (hrt : r = true) (hr0 : Kd.C (Kd.int .u8) w A0 l0.length l0) (hc0 : l0.length ≤ c0) (h : laws_FnSpans.f k l0 = some r) :
  Calls Try.prog 8 #[.slice A0 l0.length c0] w fun e w' => e = .returned (.bool r) ∧ Below w.heap.size w w' := by
 subst hrt
 have hu54 := Try.underlying54
 have HR0 := Aside0.mk hr0
 have HC0 := Aside0.mk hc0
 clear hr0 hc0
 have HB := Aside0.mk (Below.refl w.heap.size w)
 have H : ((laws_big.f l0).bind fun t232 => (if t232 = true then (some true) else ((spec_DrawMeet.f k l0).bind fun bt233 => ((impl_Meet.f bt233.1 bt233.2.1 bt233.2.2.1 bt233.2.2.2).bind fun bt239 => ((spec_Meet.f bt233.1 bt233.2.1 bt233.2.2.1 bt233.2.2.2).bind fun bt243 => (if (bt239.2.2 != bt243.2.2) = true then (some false) else ((impl_Meet.f bt233.2.2.1 bt233.2.2.2 bt233.1 bt233.2.1).bind fun bt247 => ((impl_Hull.f bt233.1 bt233.2.1 bt233.2.2.1 bt233.2.2.2).bind fun bt251 => (if (bt239.2.2 != bt247.2.2) = true then (laws_FnSpans.j0 k l0 bt239.2.2 bt251.2.2 true bt233.1 bt233.2.1 bt233.2.2.1 bt233.2.2.2 bt239.1 bt239.2.1 bt251.1 bt251.2.1) else (if (!(bt239.1 == bt247.1) || (!(bt239.2.1 == bt247.2.1))) = true then (laws_FnSpans.j0 k l0 bt239.2.2 bt251.2.2 true bt233.1 bt233.2.1 bt233.2.2.1 bt233.2.2.2 bt239.1 bt239.2.1 bt251.1 bt251.2.1) else (if bt239.2.2 = true then (if bt251.2.2 = true then ((impl_Hours.f bt239.1 bt239.2.1).bind fun t255 => ((impl_Hours.f bt233.1 bt233.2.1).bind fun t256 => (if t255 > t256 then (laws_FnSpans.j0 k l0 bt239.2.2 bt251.2.2 true bt233.1 bt233.2.1 bt233.2.2.1 bt233.2.2.2 bt239.1 bt239.2.1 bt251.1 bt251.2.1) else ((impl_Hours.f bt239.1 bt239.2.1).bind fun t257 => ((impl_Hours.f bt233.2.2.1 bt233.2.2.2).bind fun t258 => (laws_FnSpans.j0 k l0 bt239.2.2 bt251.2.2 (decide (t257 > t258)) bt233.1 bt233.2.1 bt233.2.2.1 bt233.2.2.2 bt239.1 bt239.2.1 bt251.1 bt251.2.1)))))) else (laws_FnSpans.j0 k l0 bt239.2.2 bt251.2.2 true bt233.1 bt233.2.1 bt233.2.2.1 bt233.2.2.2 bt239.1 bt239.2.1 bt251.1 bt251.2.1)) else (laws_FnSpans.j0 k l0 bt239.2.2 bt251.2.2 false bt233.1 bt233.2.1 bt233.2.2.1 bt233.2.2.2 bt239.1 bt239.2.1 bt251.1 bt251.2.1)))))))))))) = some true := h
 clear h
 replace H := Option.bind_eq_some_iff.mp H
 obtain ⟨t232, A20, H⟩ := H
 replace H : (if t232 = true then (some true) else ((spec_DrawMeet.f k l0).bind fun bt233 => ((impl_Meet.f bt233.1 bt233.2.1 bt233.2.2.1 bt233.2.2.2).bind fun bt239 => ((spec_Meet.f bt233.1 bt233.2.1 bt233.2.2.1 bt233.2.2.2).bind fun bt243 => (if (bt239.2.2 != bt243.2.2) = true then (some false) else ((impl_Meet.f bt233.2.2.1 bt233.2.2.2 bt233.1 bt233.2.1).bind fun bt247 => ((impl_Hull.f bt233.1 bt233.2.1 bt233.2.2.1 bt233.2.2.2).bind fun bt251 => (if (bt239.2.2 != bt247.2.2) = true then (laws_FnSpans.j0 k l0 bt239.2.2 bt251.2.2 true bt233.1 bt233.2.1 bt233.2.2.1 bt233.2.2.2 bt239.1 bt239.2.1 bt251.1 bt251.2.1) else (if (!(bt239.1 == bt247.1) || (!(bt239.2.1 == bt247.2.1))) = true then (laws_FnSpans.j0 k l0 bt239.2.2 bt251.2.2 true bt233.1 bt233.2.1 bt233.2.2.1 bt233.2.2.2 bt239.1 bt239.2.1 bt251.1 bt251.2.1) else (if bt239.2.2 = true then (if bt251.2.2 = true then ((impl_Hours.f bt239.1 bt239.2.1).bind fun t255 => ((impl_Hours.f bt233.1 bt233.2.1).bind fun t256 => (if t255 > t256 then (laws_FnSpans.j0 k l0 bt239.2.2 bt251.2.2 true bt233.1 bt233.2.1 bt233.2.2.1 bt233.2.2.2 bt239.1 bt239.2.1 bt251.1 bt251.2.1) else ((impl_Hours.f bt239.1 bt239.2.1).bind fun t257 => ((impl_Hours.f bt233.2.2.1 bt233.2.2.2).bind fun t258 => (laws_FnSpans.j0 k l0 bt239.2.2 bt251.2.2 (decide (t257 > t258)) bt233.1 bt233.2.1 bt233.2.2.1 bt233.2.2.2 bt239.1 bt239.2.1 bt251.1 bt251.2.1)))))) else (laws_FnSpans.j0 k l0 bt239.2.2 bt251.2.2 true bt233.1 bt233.2.1 bt233.2.2.1 bt233.2.2.2 bt239.1 bt239.2.1 bt251.1 bt251.2.1)) else (laws_FnSpans.j0 k l0 bt239.2.2 bt251.2.2 false bt233.1 bt233.2.1 bt233.2.2.1 bt233.2.2.2 bt239.1 bt239.2.1 bt251.1 bt251.2.1))))))))))) = some true := H
 have A2 := Aside0.mk A20
 clear A20
 by_cases c3 : t232 = true
 ·subst c3
  have H1 : (some true) = some true := rfl
  clear H
  have H := H1
  clear H1; clear H
  go_enter Try.func8, Try.ntmps8
  go_wp2_with (first | ((with_reducible refine gate_callee (f := 14) rfl ?_); refine goesL_ (some 20) rfl rfl Try.func14 (by kernel_rfl) rfl #[.slice A0 l0.length c0] rfl (by (try simp only [List.map_toArray, List.map_cons, List.map_nil]); first | done | rfl | (simp only [List.length_drop, List.length_take]; rfl)) ?_; (with_reducible refine (laws_big.calls _ _ l0 true _ ?side1 ?side2 A2.out).mono ?_); (case side1 => repeat (first | exact HR0.out | (with_reducible refine Kd.C_alloc ?_ _) | (with_reducible refine Kd.C_drewN ?_ _) | (with_reducible refine Kd.C_drew ?_))); (case side2 => exact HC0.out); rintro e w' ⟨rfl, ⟨nd, rfl⟩⟩; refine ⟨_, rfl, ?_⟩))
  go_ret
  exact ⟨by first | rfl | (simp [errW_none, errW_some] <;> rfl) | (simp [*, errW_none, errW_some] <;> rfl), by repeat (first | (with_reducible first | exact HB.out | apply below_alloc | apply pw_below_drewN | apply below_drew1) | exact HB.out)⟩
 ·replace c3 := Bool.eq_false_iff.mpr c3
  subst c3
  have H1 : ((spec_DrawMeet.f k l0).bind fun bt233 => ((impl_Meet.f bt233.1 bt233.2.1 bt233.2.2.1 bt233.2.2.2).bind fun bt239 => ((spec_Meet.f bt233.1 bt233.2.1 bt233.2.2.1 bt233.2.2.2).bind fun bt243 => (if (bt239.2.2 != bt243.2.2) = true then (some false) else ((impl_Meet.f bt233.2.2.1 bt233.2.2.2 bt233.1 bt233.2.1).bind fun bt247 => ((impl_Hull.f bt233.1 bt233.2.1 bt233.2.2.1 bt233.2.2.2).bind fun bt251 => (if (bt239.2.2 != bt247.2.2) = true then (laws_FnSpans.j0 k l0 bt239.2.2 bt251.2.2 true bt233.1 bt233.2.1 bt233.2.2.1 bt233.2.2.2 bt239.1 bt239.2.1 bt251.1 bt251.2.1) else (if (!(bt239.1 == bt247.1) || (!(bt239.2.1 == bt247.2.1))) = true then (laws_FnSpans.j0 k l0 bt239.2.2 bt251.2.2 true bt233.1 bt233.2.1 bt233.2.2.1 bt233.2.2.2 bt239.1 bt239.2.1 bt251.1 bt251.2.1) else (if bt239.2.2 = true then (if bt251.2.2 = true then ((impl_Hours.f bt239.1 bt239.2.1).bind fun t255 => ((impl_Hours.f bt233.1 bt233.2.1).bind fun t256 => (if t255 > t256 then (laws_FnSpans.j0 k l0 bt239.2.2 bt251.2.2 true bt233.1 bt233.2.1 bt233.2.2.1 bt233.2.2.2 bt239.1 bt239.2.1 bt251.1 bt251.2.1) else ((impl_Hours.f bt239.1 bt239.2.1).bind fun t257 => ((impl_Hours.f bt233.2.2.1 bt233.2.2.2).bind fun t258 => (laws_FnSpans.j0 k l0 bt239.2.2 bt251.2.2 (decide (t257 > t258)) bt233.1 bt233.2.1 bt233.2.2.1 bt233.2.2.2 bt239.1 bt239.2.1 bt251.1 bt251.2.1)))))) else (laws_FnSpans.j0 k l0 bt239.2.2 bt251.2.2 true bt233.1 bt233.2.1 bt233.2.2.1 bt233.2.2.2 bt239.1 bt239.2.1 bt251.1 bt251.2.1)) else (laws_FnSpans.j0 k l0 bt239.2.2 bt251.2.2 false bt233.1 bt233.2.1 bt233.2.2.1 bt233.2.2.2 bt239.1 bt239.2.1 bt251.1 bt251.2.1)))))))))) = some true := by rw [if_neg (show ¬ (false = true) by decide)] at H; exact H
  clear H
  have H := H1
  clear H1
  replace H := Option.bind_eq_some_iff.mp H
  obtain ⟨⟨t233, t234, t235, t236⟩, A40, H⟩ := H
  replace H : ((impl_Meet.f t233 t234 t235 t236).bind fun bt239 => ((spec_Meet.f t233 t234 t235 t236).bind fun bt243 => (if (bt239.2.2 != bt243.2.2) = true then (some false) else ((impl_Meet.f t235 t236 t233 t234).bind fun bt247 => ((impl_Hull.f t233 t234 t235 t236).bind fun bt251 => (if (bt239.2.2 != bt247.2.2) = true then (laws_FnSpans.j0 k l0 bt239.2.2 bt251.2.2 true t233 t234 t235 t236 bt239.1 bt239.2.1 bt251.1 bt251.2.1) else (if (!(bt239.1 == bt247.1) || (!(bt239.2.1 == bt247.2.1))) = true then (laws_FnSpans.j0 k l0 bt239.2.2 bt251.2.2 true t233 t234 t235 t236 bt239.1 bt239.2.1 bt251.1 bt251.2.1) else (if bt239.2.2 = true then (if bt251.2.2 = true then ((impl_Hours.f bt239.1 bt239.2.1).bind fun t255 => ((impl_Hours.f t233 t234).bind fun t256 => (if t255 > t256 then (laws_FnSpans.j0 k l0 bt239.2.2 bt251.2.2 true t233 t234 t235 t236 bt239.1 bt239.2.1 bt251.1 bt251.2.1) else ((impl_Hours.f bt239.1 bt239.2.1).bind fun t257 => ((impl_Hours.f t235 t236).bind fun t258 => (laws_FnSpans.j0 k l0 bt239.2.2 bt251.2.2 (decide (t257 > t258)) t233 t234 t235 t236 bt239.1 bt239.2.1 bt251.1 bt251.2.1)))))) else (laws_FnSpans.j0 k l0 bt239.2.2 bt251.2.2 true t233 t234 t235 t236 bt239.1 bt239.2.1 bt251.1 bt251.2.1)) else (laws_FnSpans.j0 k l0 bt239.2.2 bt251.2.2 false t233 t234 t235 t236 bt239.1 bt239.2.1 bt251.1 bt251.2.1))))))))) = some true := H
  have A4 := Aside0.mk A40
  clear A40
  replace H := Option.bind_eq_some_iff.mp H
  obtain ⟨⟨t239, t240, t241⟩, A50, H⟩ := H
  replace H : ((spec_Meet.f t233 t234 t235 t236).bind fun bt243 => (if (t241 != bt243.2.2) = true then (some false) else ((impl_Meet.f t235 t236 t233 t234).bind fun bt247 => ((impl_Hull.f t233 t234 t235 t236).bind fun bt251 => (if (t241 != bt247.2.2) = true then (laws_FnSpans.j0 k l0 t241 bt251.2.2 true t233 t234 t235 t236 t239 t240 bt251.1 bt251.2.1) else (if (!(t239 == bt247.1) || (!(t240 == bt247.2.1))) = true then (laws_FnSpans.j0 k l0 t241 bt251.2.2 true t233 t234 t235 t236 t239 t240 bt251.1 bt251.2.1) else (if t241 = true then (if bt251.2.2 = true then ((impl_Hours.f t239 t240).bind fun t255 => ((impl_Hours.f t233 t234).bind fun t256 => (if t255 > t256 then (laws_FnSpans.j0 k l0 t241 bt251.2.2 true t233 t234 t235 t236 t239 t240 bt251.1 bt251.2.1) else ((impl_Hours.f t239 t240).bind fun t257 => ((impl_Hours.f t235 t236).bind fun t258 => (laws_FnSpans.j0 k l0 t241 bt251.2.2 (decide (t257 > t258)) t233 t234 t235 t236 t239 t240 bt251.1 bt251.2.1)))))) else (laws_FnSpans.j0 k l0 t241 bt251.2.2 true t233 t234 t235 t236 t239 t240 bt251.1 bt251.2.1)) else (laws_FnSpans.j0 k l0 t241 bt251.2.2 false t233 t234 t235 t236 t239 t240 bt251.1 bt251.2.1)))))))) = some true := H
  have A5 := Aside0.mk A50
  clear A50
  replace H := Option.bind_eq_some_iff.mp H
  obtain ⟨⟨t243, t244, t245⟩, A60, H⟩ := H
  replace H : (if (t241 != t245) = true then (some false) else ((impl_Meet.f t235 t236 t233 t234).bind fun bt247 => ((impl_Hull.f t233 t234 t235 t236).bind fun bt251 => (if (t241 != bt247.2.2) = true then (laws_FnSpans.j0 k l0 t241 bt251.2.2 true t233 t234 t235 t236 t239 t240 bt251.1 bt251.2.1) else (if (!(t239 == bt247.1) || (!(t240 == bt247.2.1))) = true then (laws_FnSpans.j0 k l0 t241 bt251.2.2 true t233 t234 t235 t236 t239 t240 bt251.1 bt251.2.1) else (if t241 = true then (if bt251.2.2 = true then ((impl_Hours.f t239 t240).bind fun t255 => ((impl_Hours.f t233 t234).bind fun t256 => (if t255 > t256 then (laws_FnSpans.j0 k l0 t241 bt251.2.2 true t233 t234 t235 t236 t239 t240 bt251.1 bt251.2.1) else ((impl_Hours.f t239 t240).bind fun t257 => ((impl_Hours.f t235 t236).bind fun t258 => (laws_FnSpans.j0 k l0 t241 bt251.2.2 (decide (t257 > t258)) t233 t234 t235 t236 t239 t240 bt251.1 bt251.2.1)))))) else (laws_FnSpans.j0 k l0 t241 bt251.2.2 true t233 t234 t235 t236 t239 t240 bt251.1 bt251.2.1)) else (laws_FnSpans.j0 k l0 t241 bt251.2.2 false t233 t234 t235 t236 t239 t240 bt251.1 bt251.2.1))))))) = some true := H
  have A6 := Aside0.mk A60
  clear A60
  by_cases c7 : (t241 != t245) = true
  ·rw [if_pos c7] at H
   have c7b0 : (t241 != t245) = true := c7
   (try (have c7b1 : decide (t241 = t245) = false := by simpa using c7))
   (try (have c7b2 : (t241 == t245) = false := by simpa using c7))
   (try (have c7b3 : ¬ (t241 = t245) := by simpa using c7))
   clear c7
   exact absurd (Option.some.inj H) (by decide)
  ·rw [if_neg c7] at H
   have c7b0 : (t241 != t245) = false := by simpa using c7
   (try (have c7b1 : decide (t241 = t245) = true := by simpa using c7))
   (try (have c7b2 : (t241 == t245) = true := by simpa using c7))
   clear c7
   replace H := Option.bind_eq_some_iff.mp H
   obtain ⟨⟨t247, t248, t249⟩, A270, H⟩ := H
   replace H : ((impl_Hull.f t233 t234 t235 t236).bind fun bt251 => (if (t241 != t249) = true then (laws_FnSpans.j0 k l0 t241 bt251.2.2 true t233 t234 t235 t236 t239 t240 bt251.1 bt251.2.1) else (if (!(t239 == t247) || (!(t240 == t248))) = true then (laws_FnSpans.j0 k l0 t241 bt251.2.2 true t233 t234 t235 t236 t239 t240 bt251.1 bt251.2.1) else (if t241 = true then (if bt251.2.2 = true then ((impl_Hours.f t239 t240).bind fun t255 => ((impl_Hours.f t233 t234).bind fun t256 => (if t255 > t256 then (laws_FnSpans.j0 k l0 t241 bt251.2.2 true t233 t234 t235 t236 t239 t240 bt251.1 bt251.2.1) else ((impl_Hours.f t239 t240).bind fun t257 => ((impl_Hours.f t235 t236).bind fun t258 => (laws_FnSpans.j0 k l0 t241 bt251.2.2 (decide (t257 > t258)) t233 t234 t235 t236 t239 t240 bt251.1 bt251.2.1)))))) else (laws_FnSpans.j0 k l0 t241 bt251.2.2 true t233 t234 t235 t236 t239 t240 bt251.1 bt251.2.1)) else (laws_FnSpans.j0 k l0 t241 bt251.2.2 false t233 t234 t235 t236 t239 t240 bt251.1 bt251.2.1))))) = some true := H
   have A27 := Aside0.mk A270
   clear A270
   replace H := Option.bind_eq_some_iff.mp H
   obtain ⟨⟨t251, t252, t253⟩, A280, H⟩ := H
   replace H : (if (t241 != t249) = true then (laws_FnSpans.j0 k l0 t241 t253 true t233 t234 t235 t236 t239 t240 t251 t252) else (if (!(t239 == t247) || (!(t240 == t248))) = true then (laws_FnSpans.j0 k l0 t241 t253 true t233 t234 t235 t236 t239 t240 t251 t252) else (if t241 = true then (if t253 = true then ((impl_Hours.f t239 t240).bind fun t255 => ((impl_Hours.f t233 t234).bind fun t256 => (if t255 > t256 then (laws_FnSpans.j0 k l0 t241 t253 true t233 t234 t235 t236 t239 t240 t251 t252) else ((impl_Hours.f t239 t240).bind fun t257 => ((impl_Hours.f t235 t236).bind fun t258 => (laws_FnSpans.j0 k l0 t241 t253 (decide (t257 > t258)) t233 t234 t235 t236 t239 t240 t251 t252)))))) else (laws_FnSpans.j0 k l0 t241 t253 true t233 t234 t235 t236 t239 t240 t251 t252)) else (laws_FnSpans.j0 k l0 t241 t253 false t233 t234 t235 t236 t239 t240 t251 t252)))) = some true := H
   have A28 := Aside0.mk A280
   clear A280
   have HC29 := Aside0.mk H
   clear H
   go_enter Try.func8, Try.ntmps8
   go_upto_region 10 with (first | ((with_reducible refine gate_callee (f := 14) rfl ?_); refine goesL_ (some 20) rfl rfl Try.func14 (by kernel_rfl) rfl #[.slice A0 l0.length c0] rfl (by (try simp only [List.map_toArray, List.map_cons, List.map_nil]); first | done | rfl | (simp only [List.length_drop, List.length_take]; rfl)) ?_; (with_reducible refine (laws_big.calls _ _ l0 false _ ?side1 ?side2 A2.out).mono ?_); (case side1 => repeat (first | exact HR0.out | (with_reducible refine Kd.C_alloc ?_ _) | (with_reducible refine Kd.C_drewN ?_ _) | (with_reducible refine Kd.C_drew ?_))); (case side2 => exact HC0.out); rintro e w' ⟨rfl, ⟨nd, rfl⟩⟩; refine ⟨_, rfl, ?_⟩) | ((with_reducible refine gate_callee (f := 34) rfl ?_); refine goesL_ (some 23) rfl rfl Try.func34 (by kernel_rfl) rfl #[.slice A0 l0.length c0] rfl (by (try simp only [List.map_toArray, List.map_cons, List.map_nil]); first | done | rfl | (simp only [List.length_drop, List.length_take]; rfl)) ?_; (with_reducible refine (spec_DrawMeet.calls k _ _ l0 t233 t234 t235 t236 _ ?side1 ?side2 A4.out).mono ?_); (case side1 => repeat (first | exact HR0.out | (with_reducible refine Kd.C_alloc ?_ _) | (with_reducible refine Kd.C_drewN ?_ _) | (with_reducible refine Kd.C_drew ?_))); (case side2 => exact HC0.out); rintro e w30 ⟨rfl, hb⟩; refine ⟨_, rfl, ?_⟩; have n0_ := Aside0.mk (below_step (by repeat (first | (with_reducible first | exact HB.out | apply below_alloc | apply pw_below_drewN | apply below_drew1) | exact HB.out)) hb); clear HB; have HB := n0_; clear n0_; (try clear hb); (try clear hb2); (try clear hk); (try clear hi)) | ((with_reducible refine gate_dst (N := 3) rfl ?_); refine box_event ?hg (N := 3) ?hd (cs := #[.int .i64 0, .int .i64 0]) (t := 54) ?hr ?_; (case hd => rfl); (case hg => rfl); (case hr => first | (go_simp; done) | (go_simp; rfl)); intro gb237 hg w31 hbox hb; have n0_ := Aside0.mk (below_step (by repeat (first | (with_reducible first | exact HB.out | apply below_alloc | apply pw_below_drewN | apply below_drew1) | exact HB.out)) hb); have n1_ := Aside0.mk (hbox); have n3_ := Aside0.mk ((by rw [hg]; exact (below_size (by repeat (first | (with_reducible first | exact HB.out | apply below_alloc | apply pw_below_drewN | apply below_drew1) | exact HB.out))) : w.heap.size ≤ gb237)); clear HB; have HB := n0_; have BK237 := n1_; have GE237 := n3_; clear n0_ n1_ n3_; clear hb hbox hg) | ((with_reducible refine gate_dst (N := 4) rfl ?_); refine box_event ?hg (N := 4) ?hd (cs := #[.int .i64 0, .int .i64 0]) (t := 54) ?hr ?_; (case hd => rfl); (case hg => rfl); (case hr => first | (go_simp; done) | (go_simp; rfl)); intro gb238 hg w32 hbox hb; have n0_ := qcb hb BK237; have n1_ := Aside0.mk (below_step (by repeat (first | (with_reducible first | exact HB.out | apply below_alloc | apply pw_below_drewN | apply below_drew1) | exact HB.out)) hb); have n2_ := Aside0.mk (hbox); have n4_ := Aside0.mk ((by rw [hg]; exact (below_size (by repeat (first | (with_reducible first | exact HB.out | apply below_alloc | apply pw_below_drewN | apply below_drew1) | exact HB.out))) : w.heap.size ≤ gb238)); have n5_ := Aside0.mk ((by rw [hg]; exact Nat.ne_of_lt (blk_lt (g := gb237) (o := .cells #[.int .i64 0, .int .i64 0] 54 (0, 0)) (by (with_reducible repeat (first | refine blk_drewN ?_ _ | refine blk_drew ?_ | refine blk_alloc ?_ _)); exact BK237.out)) : gb237 ≠ gb238)); have n6_ := Aside0.mk ((by rw [hg]; exact Nat.ne_of_gt (blk_lt (g := gb237) (o := .cells #[.int .i64 0, .int .i64 0] 54 (0, 0)) (by (with_reducible repeat (first | refine blk_drewN ?_ _ | refine blk_drew ?_ | refine blk_alloc ?_ _)); exact BK237.out)) : gb238 ≠ gb237)); clear BK237; clear HB; have BK237 := n0_; have HB := n1_; have BK238 := n2_; have GE238 := n4_; have NB237_238 := n5_; have NB238_237 := n6_; clear n0_ n1_ n2_ n4_ n5_ n6_; clear hb hbox hg; have hnb33 := NB237_238.out; have hnc33 := NB238_237.out; have hcz34_0 : w32.cell? ⟨gb237, 0, none⟩ = some (.int .i64 0) := (blk_cell BK237.out 0).trans rfl; have hcz34_1 : w32.cell? ⟨gb237, 1, none⟩ = some (.int .i64 0) := (blk_cell BK237.out 1).trans rfl; have hfz34_0 := blk_frozen BK237.out 0; have hfz34_1 := blk_frozen BK237.out 1; have hcz35_0 : w32.cell? ⟨gb238, 0, none⟩ = some (.int .i64 0) := (blk_cell BK238.out 0).trans rfl; have hcz35_1 : w32.cell? ⟨gb238, 1, none⟩ = some (.int .i64 0) := (blk_cell BK238.out 1).trans rfl; have hfz35_0 := blk_frozen BK238.out 0; have hfz35_1 := blk_frozen BK238.out 1) | ((with_reducible refine gate_callee (f := 35) rfl ?_); refine goesL_ (some 29) rfl rfl Try.func35 (by kernel_rfl) rfl #[.agg #[.int .i64 t233, .int .i64 t234], .agg #[.int .i64 t235, .int .i64 t236]] rfl (by (try simp only [List.map_toArray, List.map_cons, List.map_nil]); first | done | rfl | (simp only [List.length_drop, List.length_take]; rfl)) ?_; (with_reducible refine (impl_Meet.calls t233 t234 t235 t236 t239 t240 t241 _ A5.out).mono ?_); rintro e w36 ⟨rfl, hb⟩; refine ⟨_, rfl, ?_⟩; have n0_ := Aside0.mk (blk_below (g := gb237) (o := .cells #[.int .i64 t233, .int .i64 t234] 54 (0, 0)) (by (with_reducible repeat (first | refine blk_drewN ?_ _ | refine blk_drew ?_ | refine blk_alloc ?_ _)); refine blk_far ?_ NB237_238.out _; (with_reducible repeat (first | refine blk_drewN ?_ _ | refine blk_drew ?_ | refine blk_alloc ?_ _)); refine blk_far ?_ NB237_238.out _; (with_reducible repeat (first | refine blk_drewN ?_ _ | refine blk_drew ?_ | refine blk_alloc ?_ _)); refine blk_put (cs := #[.int .i64 t233, .int .i64 0]) ?_ 1 _ rfl; (with_reducible repeat (first | refine blk_drewN ?_ _ | refine blk_drew ?_ | refine blk_alloc ?_ _)); refine blk_put (cs := #[.int .i64 0, .int .i64 0]) ?_ 0 _ rfl; (with_reducible repeat (first | refine blk_drewN ?_ _ | refine blk_drew ?_ | refine blk_alloc ?_ _)); exact BK237.out) hb); have n1_ := Aside0.mk (blk_below (g := gb238) (o := .cells #[.int .i64 t235, .int .i64 t236] 54 (0, 0)) (by (with_reducible repeat (first | refine blk_drewN ?_ _ | refine blk_drew ?_ | refine blk_alloc ?_ _)); refine blk_put (cs := #[.int .i64 t235, .int .i64 0]) ?_ 1 _ rfl; (with_reducible repeat (first | refine blk_drewN ?_ _ | refine blk_drew ?_ | refine blk_alloc ?_ _)); refine blk_put (cs := #[.int .i64 0, .int .i64 0]) ?_ 0 _ rfl; (with_reducible repeat (first | refine blk_drewN ?_ _ | refine blk_drew ?_ | refine blk_alloc ?_ _)); refine blk_far ?_ NB238_237.out _; (with_reducible repeat (first | refine blk_drewN ?_ _ | refine blk_drew ?_ | refine blk_alloc ?_ _)); refine blk_far ?_ NB238_237.out _; (with_reducible repeat (first | refine blk_drewN ?_ _ | refine blk_drew ?_ | refine blk_alloc ?_ _)); exact BK238.out) hb); have n2_ := Aside0.mk (below_step (by repeat (first | (with_reducible first | exact HB.out | apply below_alloc | apply pw_below_drewN | apply below_drew1 | refine below_set ?_ GE237.out | refine below_set ?_ GE238.out) | exact HB.out)) hb); clear BK237; clear BK238; clear HB; have BK237 := n0_; have BK238 := n1_; have HB := n2_; clear n0_ n1_ n2_; (try clear hb); (try clear hb2); (try clear hk); (try clear hi)) | ((with_reducible refine gate_dst (N := 5) rfl ?_); refine box_event ?hg (N := 5) ?hd (cs := #[.int .i64 0, .int .i64 0]) (t := 54) ?hr ?_; (case hd => rfl); (case hg => rfl); (case hr => first | (go_simp; done) | (go_simp; rfl)); intro gb242 hg w37 hbox hb; have n0_ := qcb hb BK237; have n1_ := qcb hb BK238; have n2_ := Aside0.mk (below_step (by repeat (first | (with_reducible first | exact HB.out | apply below_alloc | apply pw_below_drewN | apply below_drew1) | exact HB.out)) hb); have n3_ := Aside0.mk (hbox); have n5_ := Aside0.mk ((by rw [hg]; exact (below_size (by repeat (first | (with_reducible first | exact HB.out | apply below_alloc | apply pw_below_drewN | apply below_drew1) | exact HB.out))) : w.heap.size ≤ gb242)); have n6_ := Aside0.mk ((by rw [hg]; exact Nat.ne_of_lt (blk_lt (g := gb237) (o := .cells #[.int .i64 t233, .int .i64 t234] 54 (0, 0)) (by (with_reducible repeat (first | refine blk_drewN ?_ _ | refine blk_drew ?_ | refine blk_alloc ?_ _)); exact BK237.out)) : gb237 ≠ gb242)); have n7_ := Aside0.mk ((by rw [hg]; exact Nat.ne_of_gt (blk_lt (g := gb237) (o := .cells #[.int .i64 t233, .int .i64 t234] 54 (0, 0)) (by (with_reducible repeat (first | refine blk_drewN ?_ _ | refine blk_drew ?_ | refine blk_alloc ?_ _)); exact BK237.out)) : gb242 ≠ gb237)); have n8_ := Aside0.mk ((by rw [hg]; exact Nat.ne_of_lt (blk_lt (g := gb238) (o := .cells #[.int .i64 t235, .int .i64 t236] 54 (0, 0)) (by (with_reducible repeat (first | refine blk_drewN ?_ _ | refine blk_drew ?_ | refine blk_alloc ?_ _)); exact BK238.out)) : gb238 ≠ gb242)); have n9_ := Aside0.mk ((by rw [hg]; exact Nat.ne_of_gt (blk_lt (g := gb238) (o := .cells #[.int .i64 t235, .int .i64 t236] 54 (0, 0)) (by (with_reducible repeat (first | refine blk_drewN ?_ _ | refine blk_drew ?_ | refine blk_alloc ?_ _)); exact BK238.out)) : gb242 ≠ gb238)); clear BK237; clear BK238; clear HB; have BK237 := n0_; have BK238 := n1_; have HB := n2_; have BK242 := n3_; have GE242 := n5_; have NB237_242 := n6_; have NB242_237 := n7_; have NB238_242 := n8_; have NB242_238 := n9_; clear n0_ n1_ n2_ n3_ n5_ n6_ n7_ n8_ n9_; clear hb hbox hg; have hnb38 := NB242_237.out; have hnc38 := NB237_242.out; have hnb39 := NB242_238.out; have hnc39 := NB238_242.out; have hcz40_0 : w37.cell? ⟨gb242, 0, none⟩ = some (.int .i64 0) := (blk_cell BK242.out 0).trans rfl; have hcz40_1 : w37.cell? ⟨gb242, 1, none⟩ = some (.int .i64 0) := (blk_cell BK242.out 1).trans rfl; have hfz40_0 := blk_frozen BK242.out 0; have hfz40_1 := blk_frozen BK242.out 1; have hcz41_0 : w37.cell? ⟨gb237, 0, none⟩ = some (.int .i64 t233) := (blk_cell BK237.out 0).trans rfl; have hcz41_1 : w37.cell? ⟨gb237, 1, none⟩ = some (.int .i64 t234) := (blk_cell BK237.out 1).trans rfl; have hfz41_0 := blk_frozen BK237.out 0; have hfz41_1 := blk_frozen BK237.out 1; have hcz42_0 : w37.cell? ⟨gb238, 0, none⟩ = some (.int .i64 t235) := (blk_cell BK238.out 0).trans rfl; have hcz42_1 : w37.cell? ⟨gb238, 1, none⟩ = some (.int .i64 t236) := (blk_cell BK238.out 1).trans rfl; have hfz42_0 := blk_frozen BK238.out 0; have hfz42_1 := blk_frozen BK238.out 1) | ((with_reducible refine gate_callee (f := 36) rfl ?_); refine goesL_ (some 35) rfl rfl Try.func36 (by kernel_rfl) rfl #[.agg #[.int .i64 t233, .int .i64 t234], .agg #[.int .i64 t235, .int .i64 t236]] rfl (by (try simp only [List.map_toArray, List.map_cons, List.map_nil]); first | done | rfl | (simp only [List.length_drop, List.length_take]; rfl)) ?_; (with_reducible refine (spec_Meet.calls t233 t234 t235 t236 t243 t244 t245 _ A6.out).mono ?_); rintro e w43 ⟨rfl, hb⟩; refine ⟨_, rfl, ?_⟩; have n0_ := Aside0.mk (blk_below (g := gb237) (o := .cells #[.int .i64 t233, .int .i64 t234] 54 (0, 0)) (by (with_reducible repeat (first | refine blk_drewN ?_ _ | refine blk_drew ?_ | refine blk_alloc ?_ _)); refine blk_far ?_ NB237_242.out _; (with_reducible repeat (first | refine blk_drewN ?_ _ | refine blk_drew ?_ | refine blk_alloc ?_ _)); refine blk_far ?_ NB237_242.out _; (with_reducible repeat (first | refine blk_drewN ?_ _ | refine blk_drew ?_ | refine blk_alloc ?_ _)); exact BK237.out) hb); have n1_ := Aside0.mk (blk_below (g := gb238) (o := .cells #[.int .i64 t235, .int .i64 t236] 54 (0, 0)) (by (with_reducible repeat (first | refine blk_drewN ?_ _ | refine blk_drew ?_ | refine blk_alloc ?_ _)); refine blk_far ?_ NB238_242.out _; (with_reducible repeat (first | refine blk_drewN ?_ _ | refine blk_drew ?_ | refine blk_alloc ?_ _)); refine blk_far ?_ NB238_242.out _; (with_reducible repeat (first | refine blk_drewN ?_ _ | refine blk_drew ?_ | refine blk_alloc ?_ _)); exact BK238.out) hb); have n2_ := Aside0.mk (blk_below (g := gb242) (o := .cells #[.int .i64 t239, .int .i64 t240] 54 (0, 0)) (by (with_reducible repeat (first | refine blk_drewN ?_ _ | refine blk_drew ?_ | refine blk_alloc ?_ _)); refine blk_put (cs := #[.int .i64 t239, .int .i64 0]) ?_ 1 _ rfl; (with_reducible repeat (first | refine blk_drewN ?_ _ | refine blk_drew ?_ | refine blk_alloc ?_ _)); refine blk_put (cs := #[.int .i64 0, .int .i64 0]) ?_ 0 _ rfl; (with_reducible repeat (first | refine blk_drewN ?_ _ | refine blk_drew ?_ | refine blk_alloc ?_ _)); exact BK242.out) hb); have n3_ := Aside0.mk (below_step (by repeat (first | (with_reducible first | exact HB.out | apply below_alloc | apply pw_below_drewN | apply below_drew1 | refine below_set ?_ GE242.out) | exact HB.out)) hb); clear BK237; clear BK238; clear BK242; clear HB; have BK237 := n0_; have BK238 := n1_; have BK242 := n2_; have HB := n3_; clear n0_ n1_ n2_ n3_; (try clear hb); (try clear hb2); (try clear hk); (try clear hi)) | ((with_reducible refine gate_dst (N := 7) rfl ?_); refine box_event ?hg (N := 7) ?hd (cs := #[.int .i64 0, .int .i64 0]) (t := 54) ?hr ?_; (case hd => rfl); (case hg => rfl); (case hr => first | (go_simp; done) | (go_simp; rfl)); intro gb246 hg w44 hbox hb; have n0_ := qcb hb BK237; have n1_ := qcb hb BK238; have n2_ := qcb hb BK242; have n3_ := Aside0.mk (below_step (by repeat (first | (with_reducible first | exact HB.out | apply below_alloc | apply pw_below_drewN | apply below_drew1) | exact HB.out)) hb); have n4_ := Aside0.mk (hbox); have n6_ := Aside0.mk ((by rw [hg]; exact (below_size (by repeat (first | (with_reducible first | exact HB.out | apply below_alloc | apply pw_below_drewN | apply below_drew1) | exact HB.out))) : w.heap.size ≤ gb246)); have n7_ := Aside0.mk ((by rw [hg]; exact Nat.ne_of_lt (blk_lt (g := gb237) (o := .cells #[.int .i64 t233, .int .i64 t234] 54 (0, 0)) (by (with_reducible repeat (first | refine blk_drewN ?_ _ | refine blk_drew ?_ | refine blk_alloc ?_ _)); exact BK237.out)) : gb237 ≠ gb246)); have n8_ := Aside0.mk ((by rw [hg]; exact Nat.ne_of_gt (blk_lt (g := gb237) (o := .cells #[.int .i64 t233, .int .i64 t234] 54 (0, 0)) (by (with_reducible repeat (first | refine blk_drewN ?_ _ | refine blk_drew ?_ | refine blk_alloc ?_ _)); exact BK237.out)) : gb246 ≠ gb237)); have n9_ := Aside0.mk ((by rw [hg]; exact Nat.ne_of_lt (blk_lt (g := gb238) (o := .cells #[.int .i64 t235, .int .i64 t236] 54 (0, 0)) (by (with_reducible repeat (first | refine blk_drewN ?_ _ | refine blk_drew ?_ | refine blk_alloc ?_ _)); exact BK238.out)) : gb238 ≠ gb246)); have n10_ := Aside0.mk ((by rw [hg]; exact Nat.ne_of_gt (blk_lt (g := gb238) (o := .cells #[.int .i64 t235, .int .i64 t236] 54 (0, 0)) (by (with_reducible repeat (first | refine blk_drewN ?_ _ | refine blk_drew ?_ | refine blk_alloc ?_ _)); exact BK238.out)) : gb246 ≠ gb238)); have n11_ := Aside0.mk ((by rw [hg]; exact Nat.ne_of_lt (blk_lt (g := gb242) (o := .cells #[.int .i64 t239, .int .i64 t240] 54 (0, 0)) (by (with_reducible repeat (first | refine blk_drewN ?_ _ | refine blk_drew ?_ | refine blk_alloc ?_ _)); exact BK242.out)) : gb242 ≠ gb246)); have n12_ := Aside0.mk ((by rw [hg]; exact Nat.ne_of_gt (blk_lt (g := gb242) (o := .cells #[.int .i64 t239, .int .i64 t240] 54 (0, 0)) (by (with_reducible repeat (first | refine blk_drewN ?_ _ | refine blk_drew ?_ | refine blk_alloc ?_ _)); exact BK242.out)) : gb246 ≠ gb242)); clear BK237; clear BK238; clear BK242; clear HB; have BK237 := n0_; have BK238 := n1_; have BK242 := n2_; have HB := n3_; have BK246 := n4_; have GE246 := n6_; have NB237_246 := n7_; have NB246_237 := n8_; have NB238_246 := n9_; have NB246_238 := n10_; have NB242_246 := n11_; have NB246_242 := n12_; clear n0_ n1_ n2_ n3_ n4_ n6_ n7_ n8_ n9_ n10_ n11_ n12_; clear hb hbox hg; have hnb45 := NB246_237.out; have hnc45 := NB237_246.out; have hnb46 := NB246_238.out; have hnc46 := NB238_246.out; have hnb47 := NB246_242.out; have hnc47 := NB242_246.out; have hcz48_0 : w44.cell? ⟨gb246, 0, none⟩ = some (.int .i64 0) := (blk_cell BK246.out 0).trans rfl; have hcz48_1 : w44.cell? ⟨gb246, 1, none⟩ = some (.int .i64 0) := (blk_cell BK246.out 1).trans rfl; have hfz48_0 := blk_frozen BK246.out 0; have hfz48_1 := blk_frozen BK246.out 1; have hcz49_0 : w44.cell? ⟨gb238, 0, none⟩ = some (.int .i64 t235) := (blk_cell BK238.out 0).trans rfl; have hcz49_1 : w44.cell? ⟨gb238, 1, none⟩ = some (.int .i64 t236) := (blk_cell BK238.out 1).trans rfl; have hfz49_0 := blk_frozen BK238.out 0; have hfz49_1 := blk_frozen BK238.out 1; have hcz50_0 : w44.cell? ⟨gb237, 0, none⟩ = some (.int .i64 t233) := (blk_cell BK237.out 0).trans rfl; have hcz50_1 : w44.cell? ⟨gb237, 1, none⟩ = some (.int .i64 t234) := (blk_cell BK237.out 1).trans rfl; have hfz50_0 := blk_frozen BK237.out 0; have hfz50_1 := blk_frozen BK237.out 1) | ((with_reducible refine gate_callee (f := 35) rfl ?_); refine goesL_ (some 44) rfl rfl Try.func35 (by kernel_rfl) rfl #[.agg #[.int .i64 t235, .int .i64 t236], .agg #[.int .i64 t233, .int .i64 t234]] rfl (by (try simp only [List.map_toArray, List.map_cons, List.map_nil]); first | done | rfl | (simp only [List.length_drop, List.length_take]; rfl)) ?_; (with_reducible refine (impl_Meet.calls t235 t236 t233 t234 t247 t248 t249 _ A27.out).mono ?_); rintro e w51 ⟨rfl, hb⟩; refine ⟨_, rfl, ?_⟩; have n0_ := Aside0.mk (blk_below (g := gb237) (o := .cells #[.int .i64 t233, .int .i64 t234] 54 (0, 0)) (by (with_reducible repeat (first | refine blk_drewN ?_ _ | refine blk_drew ?_ | refine blk_alloc ?_ _)); refine blk_far ?_ NB237_246.out _; (with_reducible repeat (first | refine blk_drewN ?_ _ | refine blk_drew ?_ | refine blk_alloc ?_ _)); refine blk_far ?_ NB237_246.out _; (with_reducible repeat (first | refine blk_drewN ?_ _ | refine blk_drew ?_ | refine blk_alloc ?_ _)); exact BK237.out) hb); have n1_ := Aside0.mk (blk_below (g := gb238) (o := .cells #[.int .i64 t235, .int .i64 t236] 54 (0, 0)) (by (with_reducible repeat (first | refine blk_drewN ?_ _ | refine blk_drew ?_ | refine blk_alloc ?_ _)); refine blk_far ?_ NB238_246.out _; (with_reducible repeat (first | refine blk_drewN ?_ _ | refine blk_drew ?_ | refine blk_alloc ?_ _)); refine blk_far ?_ NB238_246.out _; (with_reducible repeat (first | refine blk_drewN ?_ _ | refine blk_drew ?_ | refine blk_alloc ?_ _)); exact BK238.out) hb); have n2_ := Aside0.mk (blk_below (g := gb242) (o := .cells #[.int .i64 t239, .int .i64 t240] 54 (0, 0)) (by (with_reducible repeat (first | refine blk_drewN ?_ _ | refine blk_drew ?_ | refine blk_alloc ?_ _)); refine blk_far ?_ NB242_246.out _; (with_reducible repeat (first | refine blk_drewN ?_ _ | refine blk_drew ?_ | refine blk_alloc ?_ _)); refine blk_far ?_ NB242_246.out _; (with_reducible repeat (first | refine blk_drewN ?_ _ | refine blk_drew ?_ | refine blk_alloc ?_ _)); exact BK242.out) hb); have n4_ := Aside0.mk (below_step (by repeat (first | (with_reducible first | exact HB.out | apply below_alloc | apply pw_below_drewN | apply below_drew1 | refine below_set ?_ GE246.out) | exact HB.out)) hb); clear BK237; clear BK238; clear BK242; clear BK246; clear HB; have BK237 := n0_; have BK238 := n1_; have BK242 := n2_; have HB := n4_; clear n0_ n1_ n2_ n4_; (try clear hb); (try clear hb2); (try clear hk); (try clear hi)) | ((with_reducible refine gate_dst (N := 9) rfl ?_); refine box_event ?hg (N := 9) ?hd (cs := #[.int .i64 0, .int .i64 0]) (t := 54) ?hr ?_; (case hd => rfl); (case hg => rfl); (case hr => first | (go_simp; done) | (go_simp; rfl)); intro gb250 hg w52 hbox hb; have n0_ := qcb hb BK237; have n1_ := qcb hb BK238; have n2_ := qcb hb BK242; have n4_ := Aside0.mk (below_step (by repeat (first | (with_reducible first | exact HB.out | apply below_alloc | apply pw_below_drewN | apply below_drew1) | exact HB.out)) hb); have n5_ := Aside0.mk (hbox); have n7_ := Aside0.mk ((by rw [hg]; exact (below_size (by repeat (first | (with_reducible first | exact HB.out | apply below_alloc | apply pw_below_drewN | apply below_drew1) | exact HB.out))) : w.heap.size ≤ gb250)); have n8_ := Aside0.mk ((by rw [hg]; exact Nat.ne_of_lt (blk_lt (g := gb237) (o := .cells #[.int .i64 t233, .int .i64 t234] 54 (0, 0)) (by (with_reducible repeat (first | refine blk_drewN ?_ _ | refine blk_drew ?_ | refine blk_alloc ?_ _)); exact BK237.out)) : gb237 ≠ gb250)); have n9_ := Aside0.mk ((by rw [hg]; exact Nat.ne_of_gt (blk_lt (g := gb237) (o := .cells #[.int .i64 t233, .int .i64 t234] 54 (0, 0)) (by (with_reducible repeat (first | refine blk_drewN ?_ _ | refine blk_drew ?_ | refine blk_alloc ?_ _)); exact BK237.out)) : gb250 ≠ gb237)); have n10_ := Aside0.mk ((by rw [hg]; exact Nat.ne_of_lt (blk_lt (g := gb238) (o := .cells #[.int .i64 t235, .int .i64 t236] 54 (0, 0)) (by (with_reducible repeat (first | refine blk_drewN ?_ _ | refine blk_drew ?_ | refine blk_alloc ?_ _)); exact BK238.out)) : gb238 ≠ gb250)); have n11_ := Aside0.mk ((by rw [hg]; exact Nat.ne_of_gt (blk_lt (g := gb238) (o := .cells #[.int .i64 t235, .int .i64 t236] 54 (0, 0)) (by (with_reducible repeat (first | refine blk_drewN ?_ _ | refine blk_drew ?_ | refine blk_alloc ?_ _)); exact BK238.out)) : gb250 ≠ gb238)); have n12_ := Aside0.mk ((by rw [hg]; exact Nat.ne_of_lt (blk_lt (g := gb242) (o := .cells #[.int .i64 t239, .int .i64 t240] 54 (0, 0)) (by (with_reducible repeat (first | refine blk_drewN ?_ _ | refine blk_drew ?_ | refine blk_alloc ?_ _)); exact BK242.out)) : gb242 ≠ gb250)); have n13_ := Aside0.mk ((by rw [hg]; exact Nat.ne_of_gt (blk_lt (g := gb242) (o := .cells #[.int .i64 t239, .int .i64 t240] 54 (0, 0)) (by (with_reducible repeat (first | refine blk_drewN ?_ _ | refine blk_drew ?_ | refine blk_alloc ?_ _)); exact BK242.out)) : gb250 ≠ gb242)); clear BK237; clear BK238; clear BK242; clear HB; have BK237 := n0_; have BK238 := n1_; have BK242 := n2_; have HB := n4_; have BK250 := n5_; have GE250 := n7_; have NB237_250 := n8_; have NB250_237 := n9_; have NB238_250 := n10_; have NB250_238 := n11_; have NB242_250 := n12_; have NB250_242 := n13_; clear n0_ n1_ n2_ n4_ n5_ n7_ n8_ n9_ n10_ n11_ n12_ n13_; clear hb hbox hg; have hnb53 := NB250_237.out; have hnc53 := NB237_250.out; have hnb54 := NB250_238.out; have hnc54 := NB238_250.out; have hnb55 := NB250_242.out; have hnc55 := NB242_250.out; have hcz57_0 : w52.cell? ⟨gb250, 0, none⟩ = some (.int .i64 0) := (blk_cell BK250.out 0).trans rfl; have hcz57_1 : w52.cell? ⟨gb250, 1, none⟩ = some (.int .i64 0) := (blk_cell BK250.out 1).trans rfl; have hfz57_0 := blk_frozen BK250.out 0; have hfz57_1 := blk_frozen BK250.out 1; have hcz58_0 : w52.cell? ⟨gb237, 0, none⟩ = some (.int .i64 t233) := (blk_cell BK237.out 0).trans rfl; have hcz58_1 : w52.cell? ⟨gb237, 1, none⟩ = some (.int .i64 t234) := (blk_cell BK237.out 1).trans rfl; have hfz58_0 := blk_frozen BK237.out 0; have hfz58_1 := blk_frozen BK237.out 1; have hcz59_0 : w52.cell? ⟨gb238, 0, none⟩ = some (.int .i64 t235) := (blk_cell BK238.out 0).trans rfl; have hcz59_1 : w52.cell? ⟨gb238, 1, none⟩ = some (.int .i64 t236) := (blk_cell BK238.out 1).trans rfl; have hfz59_0 := blk_frozen BK238.out 0; have hfz59_1 := blk_frozen BK238.out 1) | ((with_reducible refine gate_callee (f := 37) rfl ?_); refine goesL_ (some 50) rfl rfl Try.func37 (by kernel_rfl) rfl #[.agg #[.int .i64 t233, .int .i64 t234], .agg #[.int .i64 t235, .int .i64 t236]] rfl (by (try simp only [List.map_toArray, List.map_cons, List.map_nil]); first | done | rfl | (simp only [List.length_drop, List.length_take]; rfl)) ?_; (with_reducible refine (impl_Hull.calls t233 t234 t235 t236 t251 t252 t253 _ A28.out).mono ?_); rintro e w60 ⟨rfl, hb⟩; refine ⟨_, rfl, ?_⟩; have n0_ := Aside0.mk (blk_below (g := gb237) (o := .cells #[.int .i64 t233, .int .i64 t234] 54 (0, 0)) (by (with_reducible repeat (first | refine blk_drewN ?_ _ | refine blk_drew ?_ | refine blk_alloc ?_ _)); refine blk_far ?_ NB237_250.out _; (with_reducible repeat (first | refine blk_drewN ?_ _ | refine blk_drew ?_ | refine blk_alloc ?_ _)); refine blk_far ?_ NB237_250.out _; (with_reducible repeat (first | refine blk_drewN ?_ _ | refine blk_drew ?_ | refine blk_alloc ?_ _)); exact BK237.out) hb); have n1_ := Aside0.mk (blk_below (g := gb238) (o := .cells #[.int .i64 t235, .int .i64 t236] 54 (0, 0)) (by (with_reducible repeat (first | refine blk_drewN ?_ _ | refine blk_drew ?_ | refine blk_alloc ?_ _)); refine blk_far ?_ NB238_250.out _; (with_reducible repeat (first | refine blk_drewN ?_ _ | refine blk_drew ?_ | refine blk_alloc ?_ _)); refine blk_far ?_ NB238_250.out _; (with_reducible repeat (first | refine blk_drewN ?_ _ | refine blk_drew ?_ | refine blk_alloc ?_ _)); exact BK238.out) hb); have n2_ := Aside0.mk (blk_below (g := gb242) (o := .cells #[.int .i64 t239, .int .i64 t240] 54 (0, 0)) (by (with_reducible repeat (first | refine blk_drewN ?_ _ | refine blk_drew ?_ | refine blk_alloc ?_ _)); refine blk_far ?_ NB242_250.out _; (with_reducible repeat (first | refine blk_drewN ?_ _ | refine blk_drew ?_ | refine blk_alloc ?_ _)); refine blk_far ?_ NB242_250.out _; (with_reducible repeat (first | refine blk_drewN ?_ _ | refine blk_drew ?_ | refine blk_alloc ?_ _)); exact BK242.out) hb); have n4_ := Aside0.mk (blk_below (g := gb250) (o := .cells #[.int .i64 t247, .int .i64 t248] 54 (0, 0)) (by (with_reducible repeat (first | refine blk_drewN ?_ _ | refine blk_drew ?_ | refine blk_alloc ?_ _)); refine blk_put (cs := #[.int .i64 t247, .int .i64 0]) ?_ 1 _ rfl; (with_reducible repeat (first | refine blk_drewN ?_ _ | refine blk_drew ?_ | refine blk_alloc ?_ _)); refine blk_put (cs := #[.int .i64 0, .int .i64 0]) ?_ 0 _ rfl; (with_reducible repeat (first | refine blk_drewN ?_ _ | refine blk_drew ?_ | refine blk_alloc ?_ _)); exact BK250.out) hb); have n5_ := Aside0.mk (below_step (by repeat (first | (with_reducible first | exact HB.out | apply below_alloc | apply pw_below_drewN | apply below_drew1 | refine below_set ?_ GE250.out) | exact HB.out)) hb); clear BK237; clear BK238; clear BK242; clear BK250; clear HB; have BK237 := n0_; have BK238 := n1_; have BK242 := n2_; have BK250 := n4_; have HB := n5_; clear n0_ n1_ n2_ n4_ n5_; (try clear hb); (try clear hb2); (try clear hk); (try clear hi)) | ((with_reducible refine gate_dst (N := 11) rfl ?_); refine box_event ?hg (N := 11) ?hd (cs := #[.int .i64 0, .int .i64 0]) (t := 54) ?hr ?_; (case hd => rfl); (case hg => rfl); (case hr => first | (go_simp; done) | (go_simp; rfl)); intro gb254 hg w61 hbox hb; have n0_ := qcb hb BK237; have n1_ := qcb hb BK238; have n2_ := qcb hb BK242; have n4_ := qcb hb BK250; have n5_ := Aside0.mk (below_step (by repeat (first | (with_reducible first | exact HB.out | apply below_alloc | apply pw_below_drewN | apply below_drew1) | exact HB.out)) hb); have n6_ := Aside0.mk (hbox); have n8_ := Aside0.mk ((by rw [hg]; exact (below_size (by repeat (first | (with_reducible first | exact HB.out | apply below_alloc | apply pw_below_drewN | apply below_drew1) | exact HB.out))) : w.heap.size ≤ gb254)); have n9_ := Aside0.mk ((by rw [hg]; exact Nat.ne_of_lt (blk_lt (g := gb237) (o := .cells #[.int .i64 t233, .int .i64 t234] 54 (0, 0)) (by (with_reducible repeat (first | refine blk_drewN ?_ _ | refine blk_drew ?_ | refine blk_alloc ?_ _)); exact BK237.out)) : gb237 ≠ gb254)); have n10_ := Aside0.mk ((by rw [hg]; exact Nat.ne_of_gt (blk_lt (g := gb237) (o := .cells #[.int .i64 t233, .int .i64 t234] 54 (0, 0)) (by (with_reducible repeat (first | refine blk_drewN ?_ _ | refine blk_drew ?_ | refine blk_alloc ?_ _)); exact BK237.out)) : gb254 ≠ gb237)); have n11_ := Aside0.mk ((by rw [hg]; exact Nat.ne_of_lt (blk_lt (g := gb238) (o := .cells #[.int .i64 t235, .int .i64 t236] 54 (0, 0)) (by (with_reducible repeat (first | refine blk_drewN ?_ _ | refine blk_drew ?_ | refine blk_alloc ?_ _)); exact BK238.out)) : gb238 ≠ gb254)); have n12_ := Aside0.mk ((by rw [hg]; exact Nat.ne_of_gt (blk_lt (g := gb238) (o := .cells #[.int .i64 t235, .int .i64 t236] 54 (0, 0)) (by (with_reducible repeat (first | refine blk_drewN ?_ _ | refine blk_drew ?_ | refine blk_alloc ?_ _)); exact BK238.out)) : gb254 ≠ gb238)); have n13_ := Aside0.mk ((by rw [hg]; exact Nat.ne_of_lt (blk_lt (g := gb242) (o := .cells #[.int .i64 t239, .int .i64 t240] 54 (0, 0)) (by (with_reducible repeat (first | refine blk_drewN ?_ _ | refine blk_drew ?_ | refine blk_alloc ?_ _)); exact BK242.out)) : gb242 ≠ gb254)); have n14_ := Aside0.mk ((by rw [hg]; exact Nat.ne_of_gt (blk_lt (g := gb242) (o := .cells #[.int .i64 t239, .int .i64 t240] 54 (0, 0)) (by (with_reducible repeat (first | refine blk_drewN ?_ _ | refine blk_drew ?_ | refine blk_alloc ?_ _)); exact BK242.out)) : gb254 ≠ gb242)); have n17_ := Aside0.mk ((by rw [hg]; exact Nat.ne_of_lt (blk_lt (g := gb250) (o := .cells #[.int .i64 t247, .int .i64 t248] 54 (0, 0)) (by (with_reducible repeat (first | refine blk_drewN ?_ _ | refine blk_drew ?_ | refine blk_alloc ?_ _)); exact BK250.out)) : gb250 ≠ gb254)); have n18_ := Aside0.mk ((by rw [hg]; exact Nat.ne_of_gt (blk_lt (g := gb250) (o := .cells #[.int .i64 t247, .int .i64 t248] 54 (0, 0)) (by (with_reducible repeat (first | refine blk_drewN ?_ _ | refine blk_drew ?_ | refine blk_alloc ?_ _)); exact BK250.out)) : gb254 ≠ gb250)); clear BK237; clear BK238; clear BK242; clear BK250; clear HB; have BK237 := n0_; have BK238 := n1_; have BK242 := n2_; have BK250 := n4_; have HB := n5_; have BK254 := n6_; have GE254 := n8_; have NB237_254 := n9_; have NB254_237 := n10_; have NB238_254 := n11_; have NB254_238 := n12_; have NB242_254 := n13_; have NB254_242 := n14_; have NB250_254 := n17_; have NB254_250 := n18_; clear n0_ n1_ n2_ n4_ n5_ n6_ n8_ n9_ n10_ n11_ n12_ n13_ n14_ n17_ n18_; clear hb hbox hg; have hnb62 := NB254_237.out; have hnc62 := NB237_254.out; have hnb63 := NB254_238.out; have hnc63 := NB238_254.out; have hnb64 := NB254_242.out; have hnc64 := NB242_254.out; have hnb66 := NB254_250.out; have hnc66 := NB250_254.out; have hcz67_0 : w61.cell? ⟨gb254, 0, none⟩ = some (.int .i64 0) := (blk_cell BK254.out 0).trans rfl; have hcz67_1 : w61.cell? ⟨gb254, 1, none⟩ = some (.int .i64 0) := (blk_cell BK254.out 1).trans rfl; have hfz67_0 := blk_frozen BK254.out 0; have hfz67_1 := blk_frozen BK254.out 1))
   (try simp only [Act.put, sA, sB, sC])
   go_cut [81] (fun v81 wc => ∃ (kq : Nat) (x81_28 : Bool), v81 = .bool x81_28 ∧ Aside0 (laws_FnSpans.j0 kq l0 t241 t253 x81_28 t233 t234 t235 t236 t239 t240 t251 t252 = some true) ∧ Aside0 (kq ≤ k) ∧ Aside0 (wc.heap[gb237]? = some (.cells #[.int .i64 t233, .int .i64 t234] 54 (0, 0))) ∧ Aside0 (wc.heap[gb238]? = some (.cells #[.int .i64 t235, .int .i64 t236] 54 (0, 0))) ∧ Aside0 (wc.heap[gb242]? = some (.cells #[.int .i64 t239, .int .i64 t240] 54 (0, 0))) ∧ Aside0 (wc.heap[gb254]? = some (.cells #[.int .i64 t251, .int .i64 t252] 54 (0, 0))) ∧ Aside0 (Below w.heap.size w wc))
   case first =>
    have H := HC29.out
    clear HC29
    by_cases c68 : (t241 != t249) = true
    ·rw [if_pos c68] at H
     have c68b0 : (t241 != t249) = true := c68
     (try (have c68b1 : decide (t241 = t249) = false := by simpa using c68))
     (try (have c68b2 : (t241 == t249) = false := by simpa using c68))
     (try (have c68b3 : ¬ (t241 = t249) := by simpa using c68))
     clear c68
     (first | rw [c68b0] | (simp only [i64_w, i32_w]; rw [c68b0]) | skip)
     exact absurd H (laws_FnSpans.j0_no _ _ _ _ _ _ _ _ _ _ _ _)
    ·rw [if_neg c68] at H
     have c68b0 : (t241 != t249) = false := by simpa using c68
     (try (have c68b1 : decide (t241 = t249) = true := by simpa using c68))
     (try (have c68b2 : (t241 == t249) = true := by simpa using c68))
     clear c68
     (first | rw [c68b0] | (simp only [i64_w, i32_w]; rw [c68b0]) | skip)
     by_cases c71 : (!(t239 == t247) || (!(t240 == t248))) = true
     ·rw [if_pos c71] at H
      have c71b0 : (!(t239 == t247) || (!(t240 == t248))) = true := c71
      clear c71
      exact absurd H (laws_FnSpans.j0_no _ _ _ _ _ _ _ _ _ _ _ _)
     ·rw [if_neg c71] at H
      have c71b0 : (!(t239 == t247) || (!(t240 == t248))) = false := by simpa using c71
      have c71e := Aside0.mk (show t239 = t247 ∧ t240 = t248 by simpa using c71b0)
      clear c71
      by_cases c74 : t241 = true
      ·subst c74
       have H1 : (if t253 = true then ((impl_Hours.f t239 t240).bind fun t255 => ((impl_Hours.f t233 t234).bind fun t256 => (if t255 > t256 then (laws_FnSpans.j0 k l0 true t253 true t233 t234 t235 t236 t239 t240 t251 t252) else ((impl_Hours.f t239 t240).bind fun t257 => ((impl_Hours.f t235 t236).bind fun t258 => (laws_FnSpans.j0 k l0 true t253 (decide (t257 > t258)) t233 t234 t235 t236 t239 t240 t251 t252)))))) else (laws_FnSpans.j0 k l0 true t253 true t233 t234 t235 t236 t239 t240 t251 t252)) = some true := by rw [if_pos rfl] at H; exact H
       clear H
       have H := H1
       clear H1
       by_cases c75 : t253 = true
       ·subst c75
        have H1 : ((impl_Hours.f t239 t240).bind fun t255 => ((impl_Hours.f t233 t234).bind fun t256 => (if t255 > t256 then (laws_FnSpans.j0 k l0 true true true t233 t234 t235 t236 t239 t240 t251 t252) else ((impl_Hours.f t239 t240).bind fun t257 => ((impl_Hours.f t235 t236).bind fun t258 => (laws_FnSpans.j0 k l0 true true (decide (t257 > t258)) t233 t234 t235 t236 t239 t240 t251 t252)))))) = some true := by rw [if_pos rfl] at H; exact H
        clear H
        have H := H1
        clear H1
        replace H := Option.bind_eq_some_iff.mp H
        obtain ⟨t255, A760, H⟩ := H
        replace H : ((impl_Hours.f t233 t234).bind fun t256 => (if t255 > t256 then (laws_FnSpans.j0 k l0 true true true t233 t234 t235 t236 t239 t240 t251 t252) else ((impl_Hours.f t239 t240).bind fun t257 => ((impl_Hours.f t235 t236).bind fun t258 => (laws_FnSpans.j0 k l0 true true (decide (t257 > t258)) t233 t234 t235 t236 t239 t240 t251 t252))))) = some true := H
        have A76 := Aside0.mk A760
        clear A760
        replace H := Option.bind_eq_some_iff.mp H
        obtain ⟨t256, A770, H⟩ := H
        replace H : (if t255 > t256 then (laws_FnSpans.j0 k l0 true true true t233 t234 t235 t236 t239 t240 t251 t252) else ((impl_Hours.f t239 t240).bind fun t257 => ((impl_Hours.f t235 t236).bind fun t258 => (laws_FnSpans.j0 k l0 true true (decide (t257 > t258)) t233 t234 t235 t236 t239 t240 t251 t252)))) = some true := H
        have A77 := Aside0.mk A770
        clear A770
        by_cases c78 : t255 > t256
        ·rw [if_pos c78] at H
         have c78b0 : decide (t256 < t255) = true := decide_eq_true c78
         clear c78
         exact absurd H (laws_FnSpans.j0_no _ _ _ _ _ _ _ _ _ _ _ _)
        ·rw [if_neg c78] at H
         have c78b0 : decide (t256 < t255) = false := decide_eq_false c78
         clear c78
         replace H := Option.bind_eq_some_iff.mp H
         obtain ⟨t257, A830, H⟩ := H
         replace H : ((impl_Hours.f t235 t236).bind fun t258 => (laws_FnSpans.j0 k l0 true true (decide (t257 > t258)) t233 t234 t235 t236 t239 t240 t251 t252)) = some true := H
         have A83 := Aside0.mk A830
         clear A830
         replace H := Option.bind_eq_some_iff.mp H
         obtain ⟨t258, A840, H⟩ := H
         replace H : (laws_FnSpans.j0 k l0 true true (decide (t257 > t258)) t233 t234 t235 t236 t239 t240 t251 t252) = some true := H
         have A84 := Aside0.mk A840
         clear A840
         have H' := Aside0.mk H
         clear H
         try go_wp2
         have n0_ := qff w61 (.int .i64 t251) (.int .i64 t252) NB237_254 BK237
         have n1_ := qff w61 (.int .i64 t251) (.int .i64 t252) NB238_254 BK238
         have n2_ := qff w61 (.int .i64 t251) (.int .i64 t252) NB242_254 BK242
         have n4_ := qff w61 (.int .i64 t251) (.int .i64 t252) NB250_254 BK250
         have n5_ : Aside0 (((w61.setCell ⟨gb254, 0, none⟩ (.int .i64 t251)).setCell ⟨gb254, 1, none⟩ (.int .i64 t252)).heap[gb254]? = some (.cells #[.int .i64 t251, .int .i64 t252] 54 (0, 0))) := ⟨by (with_reducible repeat (first | refine blk_drewN ?_ _ | refine blk_drew ?_ | refine blk_alloc ?_ _)); refine blk_put (cs := #[.int .i64 t251, .int .i64 0]) ?_ 1 _ rfl; (with_reducible repeat (first | refine blk_drewN ?_ _ | refine blk_drew ?_ | refine blk_alloc ?_ _)); refine blk_put (cs := #[.int .i64 0, .int .i64 0]) ?_ 0 _ rfl; (with_reducible repeat (first | refine blk_drewN ?_ _ | refine blk_drew ?_ | refine blk_alloc ?_ _)); exact BK254.out⟩
         have n6_ : Aside0 (Below w.heap.size w ((w61.setCell ⟨gb254, 0, none⟩ (.int .i64 t251)).setCell ⟨gb254, 1, none⟩ (.int .i64 t252))) := ⟨by repeat (first | (with_reducible first | exact HB.out | apply below_alloc | apply pw_below_drewN | apply below_drew1 | refine below_set ?_ GE254.out) | exact HB.out)⟩
         (try clear BK237); (try clear BK238)
         (try clear BK242)
         (try clear BK250); (try clear BK254); (try clear HB)
         generalize ((w61.setCell ⟨gb254, 0, none⟩ (.int .i64 t251)).setCell ⟨gb254, 1, none⟩ (.int .i64 t252)) = w85 at n0_ n1_ n2_ n4_ n5_ n6_ ⊢
         have BK237 := n0_
         have BK238 := n1_
         have BK242 := n2_
         have BK250 := n4_
         have BK254 := n5_
         have HB := n6_
         clear n0_ n1_ n2_ n4_ n5_ n6_
         have n0_ := Aside0.mk (blk_drew BK237.out)
         have n1_ := Aside0.mk (blk_drew BK238.out)
         have n2_ := Aside0.mk (blk_drew BK242.out)
         have n4_ := Aside0.mk (blk_drew BK250.out)
         have n5_ := Aside0.mk (blk_drew BK254.out)
         have n6_ := Aside0.mk (below_drew1 HB.out)
         clear BK237; clear BK238
         clear BK242
         clear BK250; clear BK254; clear HB
         have BK237 := n0_
         have BK238 := n1_
         have BK242 := n2_
         have BK250 := n4_
         have BK254 := n5_
         have HB := n6_
         clear n0_ n1_ n2_ n4_ n5_ n6_
         refine start_ (n := 29) (S := fun w' => w'.cell? ⟨gb242, 0, none⟩ = some (.int .i64 t239) ∧ w'.cell? ⟨gb242, 1, none⟩ = some (.int .i64 t240) ∧ w'.cell? ⟨gb250, 0, none⟩ = some (.int .i64 t247) ∧ w'.cell? ⟨gb250, 1, none⟩ = some (.int .i64 t248) ∧ w'.cell? ⟨gb237, 0, none⟩ = some (.int .i64 t233) ∧ w'.cell? ⟨gb237, 1, none⟩ = some (.int .i64 t234) ∧ w'.cell? ⟨gb238, 0, none⟩ = some (.int .i64 t235) ∧ w'.cell? ⟨gb238, 1, none⟩ = some (.int .i64 t236)) (ds := []) qq0 (by kernel_rfl) rfl rfl ⟨(blk_cell BK242.out 0).trans rfl, (blk_cell BK242.out 1).trans rfl, (blk_cell BK250.out 0).trans rfl, (blk_cell BK250.out 1).trans rfl, (blk_cell BK237.out 0).trans rfl, (blk_cell BK237.out 1).trans rfl, (blk_cell BK238.out 0).trans rfl, (blk_cell BK238.out 1).trans rfl⟩ (fun hHeld => ?_); refine with_tabW laws_FnSpans.tab10 laws_FnSpans.bits10 (fun HT_ HW_ => ?_)
         generalize w85.drew = w86 at BK237 BK238 BK242 BK250 BK254 HB hHeld ⊢
         refine pure_ (i := 0) (N := some 53) (v := ?_) (a' := ?_) qq1 rfl rfl (any_of HT_.out (by kernel_rfl)) (fun _ _ _ h => h) (Or.inl ⟨by rfl, ?_⟩) ?_ ?_
         rotate_left; focus (intro w'; go_simp; with_reducible rfl)
         rotate_left; focus (simp only [Act.put, sA, sB, sC, i64_w, i32_w]; rfl)
         refine pure_ (i := 1) (N := some 54) (v := ?_) (a' := ?_) qq2 rfl rfl (any_of HT_.out (by kernel_rfl)) (fun _ _ _ h => h) (Or.inl ⟨by rfl, ?_⟩) ?_ ?_
         rotate_left; focus (intro w'; go_simp; with_reducible rfl)
         rotate_left; focus (simp only [Act.put, sA, sB, sC, i64_w, i32_w]; rfl)
         refine pure_ (i := 2) (N := some 55) (v := ?_) (a' := ?_) qq3 rfl rfl (any_of HT_.out (by kernel_rfl)) (fun _ _ _ h => h) (Or.inl ⟨by rfl, ?_⟩) ?_ ?_
         rotate_left; focus (intro w'; go_simp; with_reducible rfl)
         rotate_left; focus (simp only [Act.put, sA, sB, sC, i64_w, i32_w]; rfl)
         refine pure_ (i := 3) (N := some 56) (v := ?_) (a' := ?_) qq4 rfl rfl (any_of HT_.out (by kernel_rfl)) (fun _ _ _ h => h) (Or.inl ⟨by rfl, ?_⟩) ?_ ?_
         rotate_left; focus (intro w'; go_simp; with_reducible rfl)
         rotate_left; focus (simp only [Act.put, sA, sB, sC, i64_w, i32_w]; rfl)
         refine take_ (i := 4) (N := some 57) (v := ?_) (a' := ?_) qq5 rfl rfl (take_ofW HT_.out HW_.out (by kernel_rfl)) (fun _ _ _ h => h) (Or.inl ⟨by rfl, ?_⟩) hHeld ?_ ?_
         rotate_left; focus (rintro w' ⟨s0, s1, s2, s3, s4, s5, s6, s7⟩; go_simp; with_reducible rfl)
         rotate_left; focus (simp only [Act.put, sA, sB, sC, i64_w, i32_w]; rfl)
         refine take_ (i := 5) (N := some 58) (v := ?_) (a' := ?_) qq6 rfl rfl (take_ofW HT_.out HW_.out (by kernel_rfl)) (fun _ _ _ h => h) (Or.inl ⟨by rfl, ?_⟩) hHeld ?_ ?_
         rotate_left; focus (rintro w' ⟨s0, s1, s2, s3, s4, s5, s6, s7⟩; go_simp; with_reducible rfl)
         rotate_left; focus (simp only [Act.put, sA, sB, sC, i64_w, i32_w]; rfl)
         refine pure_ (i := 6) (N := some 59) (v := ?_) (a' := ?_) qq7 rfl rfl (any_of HT_.out (by kernel_rfl)) (fun _ _ _ h => h) (Or.inl ⟨by rfl, ?_⟩) ?_ ?_
         rotate_left; focus (intro w'; go_simp; first | with_reducible rfl | (rw [if_pos c71e.out.1, if_pos c71e.out.2]; done) | (rw [if_pos c71e.out.1, if_pos c71e.out.2]; with_reducible rfl))
         rotate_left; focus (simp only [Act.put, sA, sB, sC, i64_w, i32_w]; rfl)
         refine pure_ (i := 7) (N := some 60) (v := ?_) (a' := ?_) qq8 rfl rfl (any_of HT_.out (by kernel_rfl)) (fun _ _ _ h => h) (Or.inl ⟨by rfl, ?_⟩) ?_ ?_
         rotate_left; focus (intro w'; go_simp; with_reducible rfl)
         rotate_left; focus (simp only [Act.put, sA, sB, sC, i64_w, i32_w]; rfl)
         refine pure_ (i := 8) (N := some 61) (v := ?_) (a' := ?_) qq9 rfl rfl (any_of HT_.out (by kernel_rfl)) (fun _ _ _ h => h) (Or.inl ⟨by rfl, ?_⟩) ?_ ?_
         rotate_left; focus (intro w'; go_simp; with_reducible rfl)
         rotate_left; focus (simp only [Act.put, sA, sB, sC, i64_w, i32_w]; rfl)
         refine pure_ (i := 9) (N := some 62) (v := ?_) (a' := ?_) qq10 rfl rfl (any_of HT_.out (by kernel_rfl)) (fun _ _ _ h => h) (Or.inl ⟨by rfl, ?_⟩) ?_ ?_
         rotate_left; focus (intro w'; go_simp; with_reducible rfl)
         rotate_left; focus (simp only [Act.put, sA, sB, sC, i64_w, i32_w]; rfl)
         refine pure_ (i := 10) (N := some 63) (v := ?_) (a' := ?_) qq11 rfl rfl (any_of HT_.out (by kernel_rfl)) (fun _ _ _ h => h) (Or.inl ⟨by rfl, ?_⟩) ?_ ?_
         rotate_left; focus (intro w'; go_simp; with_reducible rfl)
         rotate_left; focus (simp only [Act.put, sA, sB, sC, i64_w, i32_w]; rfl)
         refine pure_ (i := 11) (N := some 64) (v := ?_) (a' := ?_) qq12 rfl rfl (any_of HT_.out (by kernel_rfl)) (fun _ _ _ h => h) (Or.inl ⟨by rfl, ?_⟩) ?_ ?_
         rotate_left; focus (intro w'; go_simp; with_reducible rfl)
         rotate_left; focus (simp only [Act.put, sA, sB, sC, i64_w, i32_w]; rfl)
         refine pure_ (i := 12) (N := some 65) (v := ?_) (a' := ?_) qq13 rfl rfl (any_of HT_.out (by kernel_rfl)) (fun _ _ _ h => h) (Or.inl ⟨by rfl, ?_⟩) ?_ ?_
         rotate_left; focus (intro w'; go_simp; with_reducible rfl)
         rotate_left; focus (simp only [Act.put, sA, sB, sC, i64_w, i32_w]; rfl)
         refine pure_ (i := 13) (N := some 66) (v := ?_) (a' := ?_) qq14 rfl rfl (any_of HT_.out (by kernel_rfl)) (fun _ _ _ h => h) (Or.inl ⟨by rfl, ?_⟩) ?_ ?_
         rotate_left; focus (intro w'; go_simp; with_reducible rfl)
         rotate_left; focus (simp only [Act.put, sA, sB, sC, i64_w, i32_w]; rfl)
         refine take_ (i := 14) (N := some 67) (v := ?_) (a' := ?_) qq15 rfl rfl (take_ofW HT_.out HW_.out (by kernel_rfl)) (fun _ _ _ h => h) (Or.inl ⟨by rfl, ?_⟩) hHeld ?_ ?_
         rotate_left; focus (rintro w' ⟨s0, s1, s2, s3, s4, s5, s6, s7⟩; go_simp; with_reducible rfl)
         rotate_left; focus (simp only [Act.put, sA, sB, sC, i64_w, i32_w]; rfl)
         refine take_ (i := 16) (N := some 69) (v := ?_) (a' := ?_) qq16 rfl rfl (take_ofW HT_.out HW_.out (by kernel_rfl)) (fun _ _ _ h => h) (Or.inl ⟨by rfl, ?_⟩) hHeld ?_ ?_
         rotate_left; focus (rintro w' ⟨s0, s1, s2, s3, s4, s5, s6, s7⟩; go_simp; with_reducible rfl)
         rotate_left; focus (simp only [Act.put, sA, sB, sC, i64_w, i32_w]; rfl)
         refine one_ (i := 15) (N := some 68) qq17 rfl rfl (one_of HT_.out (by kernel_rfl)) (by decide) (fun K hK => ?_)
         refine goes_ Try.func38 (by kernel_rfl) rfl #[.agg #[.int .i64 t239, .int .i64 t240]] (by rfl) rfl rfl (by (try simp only [List.map_toArray, List.map_cons, List.map_nil]); first | done | rfl | (simp only [List.length_drop, List.length_take]; rfl)) ?_
         with_reducible refine (impl_Hours.calls t239 t240 t255 _ A76.out).mono ?_
         rintro e w87 ⟨rfl, hb⟩
         refine ⟨_, rfl, ?_⟩
         have n0_ := qcb hb BK237
         have n1_ := qcb hb BK238
         have n2_ := qcb hb BK242
         have n4_ := qcb hb BK250
         have n5_ := qcb hb BK254
         have n6_ := Aside0.mk (below_step (by repeat (first | (with_reducible first | exact HB.out | apply below_alloc | apply pw_below_drewN | apply below_drew1) | exact HB.out)) hb)
         clear BK237; clear BK238
         clear BK242
         clear BK250; clear BK254; clear HB
         have BK237 := n0_
         have BK238 := n1_
         have BK242 := n2_
         have BK250 := n4_
         have BK254 := n5_
         have HB := n6_
         clear n0_ n1_ n2_ n4_ n5_ n6_; (try clear hb)
         (try clear hb2); (try clear hk); (try clear hi)
         refine hK.out _ _ ⟨(blk_cell BK242.out 0).trans rfl, (blk_cell BK242.out 1).trans rfl, (blk_cell BK250.out 0).trans rfl, (blk_cell BK250.out 1).trans rfl, (blk_cell BK237.out 0).trans rfl, (blk_cell BK237.out 1).trans rfl, (blk_cell BK238.out 0).trans rfl, (blk_cell BK238.out 1).trans rfl⟩ (fun hHeld => ?_)
         clear hK K
         refine norm_ (a' := ?_) ?_ ?_
         rotate_left; focus (show Act.put _ (some 68) _ = _; simp only [Act.put, sA, sB, sC, i64_w, i32_w]; rfl)
         refine one_ (i := 17) (N := some 70) qq18 rfl rfl (one_of HT_.out (by kernel_rfl)) (by decide) (fun K hK => ?_)
         refine goes_ Try.func38 (by kernel_rfl) rfl #[.agg #[.int .i64 t233, .int .i64 t234]] (by rfl) rfl rfl (by (try simp only [List.map_toArray, List.map_cons, List.map_nil]); first | done | rfl | (simp only [List.length_drop, List.length_take]; rfl)) ?_
         with_reducible refine (impl_Hours.calls t233 t234 t256 _ A77.out).mono ?_
         rintro e w88 ⟨rfl, hb⟩
         refine ⟨_, rfl, ?_⟩
         have n0_ := qcb hb BK237
         have n1_ := qcb hb BK238
         have n2_ := qcb hb BK242
         have n4_ := qcb hb BK250
         have n5_ := qcb hb BK254
         have n6_ := Aside0.mk (below_step (by repeat (first | (with_reducible first | exact HB.out | apply below_alloc | apply pw_below_drewN | apply below_drew1) | exact HB.out)) hb)
         clear BK237; clear BK238
         clear BK242
         clear BK250; clear BK254; clear HB
         have BK237 := n0_
         have BK238 := n1_
         have BK242 := n2_
         have BK250 := n4_
         have BK254 := n5_
         have HB := n6_
         clear n0_ n1_ n2_ n4_ n5_ n6_; (try clear hb)
         (try clear hb2); (try clear hk); (try clear hi)
         refine hK.out _ _ ⟨(blk_cell BK242.out 0).trans rfl, (blk_cell BK242.out 1).trans rfl, (blk_cell BK250.out 0).trans rfl, (blk_cell BK250.out 1).trans rfl, (blk_cell BK237.out 0).trans rfl, (blk_cell BK237.out 1).trans rfl, (blk_cell BK238.out 0).trans rfl, (blk_cell BK238.out 1).trans rfl⟩ (fun hHeld => ?_)
         clear hK K
         refine norm_ (a' := ?_) ?_ ?_
         rotate_left; focus (show Act.put _ (some 70) _ = _; simp only [Act.put, sA, sB, sC, i64_w, i32_w]; rfl)
         refine pure_ (i := 18) (N := some 71) (v := ?_) (a' := ?_) qq19 rfl rfl (any_of HT_.out (by kernel_rfl)) (fun _ _ _ h => h) (Or.inl ⟨by rfl, ?_⟩) ?_ ?_
         rotate_left; focus (intro w'; go_simp; with_reducible rfl)
         rotate_left; focus (simp only [Act.put, sA, sB, sC, i64_w, i32_w]; rfl)
         refine pure_ (i := 19) (N := some 72) (v := ?_) (a' := ?_) qq20 rfl rfl (any_of HT_.out (by kernel_rfl)) (fun _ _ _ h => h) (Or.inl ⟨by rfl, ?_⟩) ?_ ?_
         rotate_left; focus (intro w'; go_simp; with_reducible rfl)
         rotate_left; focus (simp only [Act.put, sA, sB, sC, i64_w, i32_w]; rfl)
         refine pure_ (i := 20) (N := some 73) (v := ?_) (a' := ?_) qq21 rfl rfl (any_of HT_.out (by kernel_rfl)) (fun _ _ _ h => h) (Or.inl ⟨by rfl, ?_⟩) ?_ ?_
         rotate_left; focus (intro w'; go_simp; with_reducible rfl)
         rotate_left; focus (simp only [Act.put, sA, sB, sC, i64_w, i32_w]; rfl)
         refine take_ (i := 21) (N := some 74) (v := ?_) (a' := ?_) qq22 rfl rfl (take_ofW HT_.out HW_.out (by kernel_rfl)) (fun _ _ _ h => h) (Or.inl ⟨by rfl, ?_⟩) hHeld ?_ ?_
         rotate_left; focus (rintro w' ⟨s0, s1, s2, s3, s4, s5, s6, s7⟩; go_simp; with_reducible rfl)
         rotate_left; focus (simp only [Act.put, sA, sB, sC, i64_w, i32_w]; rfl)
         refine take_ (i := 23) (N := some 76) (v := ?_) (a' := ?_) qq23 rfl rfl (take_ofW HT_.out HW_.out (by kernel_rfl)) (fun _ _ _ h => h) (Or.inl ⟨by rfl, ?_⟩) hHeld ?_ ?_
         rotate_left; focus (rintro w' ⟨s0, s1, s2, s3, s4, s5, s6, s7⟩; go_simp; with_reducible rfl)
         rotate_left; focus (simp only [Act.put, sA, sB, sC, i64_w, i32_w]; rfl)
         refine one_ (i := 22) (N := some 75) qq24 rfl rfl (one_of HT_.out (by kernel_rfl)) (by decide) (fun K hK => ?_)
         refine goes_ Try.func38 (by kernel_rfl) rfl #[.agg #[.int .i64 t239, .int .i64 t240]] (by rfl) rfl rfl (by (try simp only [List.map_toArray, List.map_cons, List.map_nil]); first | done | rfl | (simp only [List.length_drop, List.length_take]; rfl)) ?_
         with_reducible refine (impl_Hours.calls t239 t240 t257 _ A83.out).mono ?_
         rintro e w89 ⟨rfl, hb⟩
         refine ⟨_, rfl, ?_⟩
         have n0_ := qcb hb BK237
         have n1_ := qcb hb BK238
         have n2_ := qcb hb BK242
         have n4_ := qcb hb BK250
         have n5_ := qcb hb BK254
         have n6_ := Aside0.mk (below_step (by repeat (first | (with_reducible first | exact HB.out | apply below_alloc | apply pw_below_drewN | apply below_drew1) | exact HB.out)) hb)
         clear BK237; clear BK238
         clear BK242
         clear BK250; clear BK254; clear HB
         have BK237 := n0_
         have BK238 := n1_
         have BK242 := n2_
         have BK250 := n4_
         have BK254 := n5_
         have HB := n6_
         clear n0_ n1_ n2_ n4_ n5_ n6_; (try clear hb)
         (try clear hb2); (try clear hk); (try clear hi)
         refine hK.out _ _ ⟨(blk_cell BK242.out 0).trans rfl, (blk_cell BK242.out 1).trans rfl, (blk_cell BK250.out 0).trans rfl, (blk_cell BK250.out 1).trans rfl, (blk_cell BK237.out 0).trans rfl, (blk_cell BK237.out 1).trans rfl, (blk_cell BK238.out 0).trans rfl, (blk_cell BK238.out 1).trans rfl⟩ (fun hHeld => ?_)
         clear hK K
         refine norm_ (a' := ?_) ?_ ?_
         rotate_left; focus (show Act.put _ (some 75) _ = _; simp only [Act.put, sA, sB, sC, i64_w, i32_w]; rfl)
         refine one_ (i := 24) (N := some 77) qq25 rfl rfl (one_of HT_.out (by kernel_rfl)) (by decide) (fun K hK => ?_)
         refine goes_ Try.func38 (by kernel_rfl) rfl #[.agg #[.int .i64 t235, .int .i64 t236]] (by rfl) rfl rfl (by (try simp only [List.map_toArray, List.map_cons, List.map_nil]); first | done | rfl | (simp only [List.length_drop, List.length_take]; rfl)) ?_
         with_reducible refine (impl_Hours.calls t235 t236 t258 _ A84.out).mono ?_
         rintro e w90 ⟨rfl, hb⟩
         refine ⟨_, rfl, ?_⟩
         have n0_ := qcb hb BK237
         have n1_ := qcb hb BK238
         have n2_ := qcb hb BK242
         have n4_ := qcb hb BK250
         have n5_ := qcb hb BK254
         have n6_ := Aside0.mk (below_step (by repeat (first | (with_reducible first | exact HB.out | apply below_alloc | apply pw_below_drewN | apply below_drew1) | exact HB.out)) hb)
         clear BK237; clear BK238
         clear BK242
         clear BK250; clear BK254; clear HB
         have BK237 := n0_
         have BK238 := n1_
         have BK242 := n2_
         have BK250 := n4_
         have BK254 := n5_
         have HB := n6_
         clear n0_ n1_ n2_ n4_ n5_ n6_; (try clear hb)
         (try clear hb2); (try clear hk); (try clear hi)
         refine hK.out _ _ ⟨(blk_cell BK242.out 0).trans rfl, (blk_cell BK242.out 1).trans rfl, (blk_cell BK250.out 0).trans rfl, (blk_cell BK250.out 1).trans rfl, (blk_cell BK237.out 0).trans rfl, (blk_cell BK237.out 1).trans rfl, (blk_cell BK238.out 0).trans rfl, (blk_cell BK238.out 1).trans rfl⟩ (fun hHeld => ?_)
         clear hK K
         refine norm_ (a' := ?_) ?_ ?_
         rotate_left; focus (show Act.put _ (some 77) _ = _; simp only [Act.put, sA, sB, sC, i64_w, i32_w]; rfl)
         refine pure_ (i := 25) (N := some 78) (v := ?_) (a' := ?_) qq26 rfl rfl (any_of HT_.out (by kernel_rfl)) (fun _ _ _ h => h) (Or.inl ⟨by rfl, ?_⟩) ?_ ?_
         rotate_left; focus (intro w'; go_simp; with_reducible rfl)
         rotate_left; focus (simp only [Act.put, sA, sB, sC, i64_w, i32_w]; rfl)
         refine pure_ (i := 26) (N := some 79) (v := ?_) (a' := ?_) qq27 rfl rfl (any_of HT_.out (by kernel_rfl)) (fun _ _ _ h => h) (Or.inl ⟨by rfl, ?_⟩) ?_ ?_
         rotate_left; focus (intro w'; go_simp; with_reducible rfl)
         rotate_left; focus (simp only [Act.put, sA, sB, sC, i64_w, i32_w]; rfl)
         refine pure_ (i := 27) (N := some 80) (v := ?_) (a' := ?_) qq28 rfl rfl (any_of HT_.out (by kernel_rfl)) (fun _ _ _ h => h) (Or.inl ⟨by rfl, ?_⟩) ?_ ?_
         rotate_left; focus (intro w'; go_simp; with_reducible rfl)
         rotate_left; focus (simp only [Act.put, sA, sB, sC, i64_w, i32_w]; rfl)
         refine pure_ (i := 28) (N := some 81) (v := ?_) (a' := ?_) qq29 rfl rfl (any_of HT_.out (by kernel_rfl)) (fun _ _ _ h => h) (Or.inl ⟨by rfl, ?_⟩) ?_ ?_
         rotate_left; focus (intro w'; go_simp; with_reducible rfl)
         rotate_left; focus (simp only [Act.put, sA, sB, sC, i64_w, i32_w]; rfl)
         refine done_ (done_of HT_.out (by kernel_rfl)) ?_
         try go_wp2
         go_meet
         case rel => exact ⟨_, (decide (t257 > t258)), (by first | rfl | (simp; done) | (simp [*]; done)), H', ⟨by first | omega | exact Nat.le_refl _⟩, ⟨by (with_reducible repeat (first | refine blk_drewN ?_ _ | refine blk_drew ?_ | refine blk_alloc ?_ _)); exact BK237.out⟩, ⟨by (with_reducible repeat (first | refine blk_drewN ?_ _ | refine blk_drew ?_ | refine blk_alloc ?_ _)); exact BK238.out⟩, ⟨by (with_reducible repeat (first | refine blk_drewN ?_ _ | refine blk_drew ?_ | refine blk_alloc ?_ _)); exact BK242.out⟩, ⟨by (with_reducible repeat (first | refine blk_drewN ?_ _ | refine blk_drew ?_ | refine blk_alloc ?_ _)); exact BK254.out⟩, ⟨by repeat (first | (with_reducible first | exact HB.out | apply below_alloc | apply pw_below_drewN | apply below_drew1) | exact HB.out)⟩⟩
       ·replace c75 := Bool.eq_false_iff.mpr c75
        subst c75
        have H1 : (laws_FnSpans.j0 k l0 true false true t233 t234 t235 t236 t239 t240 t251 t252) = some true := by rw [if_neg (show ¬ (false = true) by decide)] at H; exact H
        clear H
        have H := H1
        clear H1
        exact absurd H (laws_FnSpans.j0_no _ _ _ _ _ _ _ _ _ _ _ _)
      ·replace c74 := Bool.eq_false_iff.mpr c74
       subst c74
       have H1 : (laws_FnSpans.j0 k l0 false t253 false t233 t234 t235 t236 t239 t240 t251 t252) = some true := by rw [if_neg (show ¬ (false = true) by decide)] at H; exact H
       clear H
       have H := H1
       clear H1
       have H' := Aside0.mk H
       clear H
       try go_wp2
       have n0_ := qff w61 (.int .i64 t251) (.int .i64 t252) NB237_254 BK237
       have n1_ := qff w61 (.int .i64 t251) (.int .i64 t252) NB238_254 BK238
       have n2_ := qff w61 (.int .i64 t251) (.int .i64 t252) NB242_254 BK242
       have n4_ := qff w61 (.int .i64 t251) (.int .i64 t252) NB250_254 BK250
       have n5_ : Aside0 (((w61.setCell ⟨gb254, 0, none⟩ (.int .i64 t251)).setCell ⟨gb254, 1, none⟩ (.int .i64 t252)).heap[gb254]? = some (.cells #[.int .i64 t251, .int .i64 t252] 54 (0, 0))) := ⟨by (with_reducible repeat (first | refine blk_drewN ?_ _ | refine blk_drew ?_ | refine blk_alloc ?_ _)); refine blk_put (cs := #[.int .i64 t251, .int .i64 0]) ?_ 1 _ rfl; (with_reducible repeat (first | refine blk_drewN ?_ _ | refine blk_drew ?_ | refine blk_alloc ?_ _)); refine blk_put (cs := #[.int .i64 0, .int .i64 0]) ?_ 0 _ rfl; (with_reducible repeat (first | refine blk_drewN ?_ _ | refine blk_drew ?_ | refine blk_alloc ?_ _)); exact BK254.out⟩
       have n6_ : Aside0 (Below w.heap.size w ((w61.setCell ⟨gb254, 0, none⟩ (.int .i64 t251)).setCell ⟨gb254, 1, none⟩ (.int .i64 t252))) := ⟨by repeat (first | (with_reducible first | exact HB.out | apply below_alloc | apply pw_below_drewN | apply below_drew1 | refine below_set ?_ GE254.out) | exact HB.out)⟩
       (try clear BK237); (try clear BK238)
       (try clear BK242)
       (try clear BK250); (try clear BK254); (try clear HB)
       generalize ((w61.setCell ⟨gb254, 0, none⟩ (.int .i64 t251)).setCell ⟨gb254, 1, none⟩ (.int .i64 t252)) = w93 at n0_ n1_ n2_ n4_ n5_ n6_ ⊢
       have BK237 := n0_
       have BK238 := n1_
       have BK242 := n2_
       have BK250 := n4_
       have BK254 := n5_
       have HB := n6_
       clear n0_ n1_ n2_ n4_ n5_ n6_
       have n0_ := Aside0.mk (blk_drew BK237.out)
       have n1_ := Aside0.mk (blk_drew BK238.out)
       have n2_ := Aside0.mk (blk_drew BK242.out)
       have n4_ := Aside0.mk (blk_drew BK250.out)
       have n5_ := Aside0.mk (blk_drew BK254.out)
       have n6_ := Aside0.mk (below_drew1 HB.out)
       clear BK237; clear BK238
       clear BK242
       clear BK250; clear BK254; clear HB
       have BK237 := n0_
       have BK238 := n1_
       have BK242 := n2_
       have BK250 := n4_
       have BK254 := n5_
       have HB := n6_
       clear n0_ n1_ n2_ n4_ n5_ n6_
       refine start_ (n := 29) (S := fun w' => w'.cell? ⟨gb242, 0, none⟩ = some (.int .i64 t239) ∧ w'.cell? ⟨gb242, 1, none⟩ = some (.int .i64 t240) ∧ w'.cell? ⟨gb250, 0, none⟩ = some (.int .i64 t247) ∧ w'.cell? ⟨gb250, 1, none⟩ = some (.int .i64 t248)) (ds := []) qq0 (by kernel_rfl) rfl rfl ⟨(blk_cell BK242.out 0).trans rfl, (blk_cell BK242.out 1).trans rfl, (blk_cell BK250.out 0).trans rfl, (blk_cell BK250.out 1).trans rfl⟩ (fun hHeld => ?_); refine with_tabW laws_FnSpans.tab10 laws_FnSpans.bits10 (fun HT_ HW_ => ?_)
       generalize w93.drew = w94 at BK237 BK238 BK242 BK250 BK254 HB hHeld ⊢
       refine pure_ (i := 0) (N := some 53) (v := ?_) (a' := ?_) qq1 rfl rfl (any_of HT_.out (by kernel_rfl)) (fun _ _ _ h => h) (Or.inl ⟨by rfl, ?_⟩) ?_ ?_
       rotate_left; focus (intro w'; go_simp; with_reducible rfl)
       rotate_left; focus (simp only [Act.put, sA, sB, sC, i64_w, i32_w]; rfl)
       refine pure_ (i := 1) (N := some 54) (v := ?_) (a' := ?_) qq2 rfl rfl (any_of HT_.out (by kernel_rfl)) (fun _ _ _ h => h) (Or.inl ⟨by rfl, ?_⟩) ?_ ?_
       rotate_left; focus (intro w'; go_simp; with_reducible rfl)
       rotate_left; focus (simp only [Act.put, sA, sB, sC, i64_w, i32_w]; rfl)
       refine pure_ (i := 2) (N := some 55) (v := ?_) (a' := ?_) qq3 rfl rfl (any_of HT_.out (by kernel_rfl)) (fun _ _ _ h => h) (Or.inl ⟨by rfl, ?_⟩) ?_ ?_
       rotate_left; focus (intro w'; go_simp; with_reducible rfl)
       rotate_left; focus (simp only [Act.put, sA, sB, sC, i64_w, i32_w]; rfl)
       refine pure_ (i := 3) (N := some 56) (v := ?_) (a' := ?_) qq4 rfl rfl (any_of HT_.out (by kernel_rfl)) (fun _ _ _ h => h) (Or.inl ⟨by rfl, ?_⟩) ?_ ?_
       rotate_left; focus (intro w'; go_simp; with_reducible rfl)
       rotate_left; focus (simp only [Act.put, sA, sB, sC, i64_w, i32_w]; rfl)
       refine take_ (i := 4) (N := some 57) (v := ?_) (a' := ?_) qq5 rfl rfl (take_ofW HT_.out HW_.out (by kernel_rfl)) (fun _ _ _ h => h) (Or.inl ⟨by rfl, ?_⟩) hHeld ?_ ?_
       rotate_left; focus (rintro w' ⟨s0, s1, s2, s3⟩; go_simp; with_reducible rfl)
       rotate_left; focus (simp only [Act.put, sA, sB, sC, i64_w, i32_w]; rfl)
       refine take_ (i := 5) (N := some 58) (v := ?_) (a' := ?_) qq6 rfl rfl (take_ofW HT_.out HW_.out (by kernel_rfl)) (fun _ _ _ h => h) (Or.inl ⟨by rfl, ?_⟩) hHeld ?_ ?_
       rotate_left; focus (rintro w' ⟨s0, s1, s2, s3⟩; go_simp; with_reducible rfl)
       rotate_left; focus (simp only [Act.put, sA, sB, sC, i64_w, i32_w]; rfl)
       refine pure_ (i := 6) (N := some 59) (v := ?_) (a' := ?_) qq7 rfl rfl (any_of HT_.out (by kernel_rfl)) (fun _ _ _ h => h) (Or.inl ⟨by rfl, ?_⟩) ?_ ?_
       rotate_left; focus (intro w'; go_simp; first | with_reducible rfl | (rw [if_pos c71e.out.1, if_pos c71e.out.2]; done) | (rw [if_pos c71e.out.1, if_pos c71e.out.2]; with_reducible rfl))
       rotate_left; focus (simp only [Act.put, sA, sB, sC, i64_w, i32_w]; rfl)
       refine pure_ (i := 7) (N := some 60) (v := ?_) (a' := ?_) qq8 rfl rfl (any_of HT_.out (by kernel_rfl)) (fun _ _ _ h => h) (Or.inl ⟨by rfl, ?_⟩) ?_ ?_
       rotate_left; focus (intro w'; go_simp; with_reducible rfl)
       rotate_left; focus (simp only [Act.put, sA, sB, sC, i64_w, i32_w]; rfl)
       refine pure_ (i := 8) (N := some 61) (v := ?_) (a' := ?_) qq9 rfl rfl (any_of HT_.out (by kernel_rfl)) (fun _ _ _ h => h) (Or.inl ⟨by rfl, ?_⟩) ?_ ?_
       rotate_left; focus (intro w'; go_simp; with_reducible rfl)
       rotate_left; focus (simp only [Act.put, sA, sB, sC, i64_w, i32_w]; rfl)
       refine pure_ (i := 9) (N := some 62) (v := ?_) (a' := ?_) qq10 rfl rfl (any_of HT_.out (by kernel_rfl)) (fun _ _ _ h => h) (Or.inl ⟨by rfl, ?_⟩) ?_ ?_
       rotate_left; focus (intro w'; go_simp; with_reducible rfl)
       rotate_left; focus (simp only [Act.put, sA, sB, sC, i64_w, i32_w]; rfl)
       refine pure_ (i := 10) (N := some 63) (v := ?_) (a' := ?_) qq11 rfl rfl (any_of HT_.out (by kernel_rfl)) (fun _ _ _ h => h) (Or.inl ⟨by rfl, ?_⟩) ?_ ?_
       rotate_left; focus (intro w'; go_simp; with_reducible rfl)
       rotate_left; focus (simp only [Act.put, sA, sB, sC, i64_w, i32_w]; rfl)
       refine pure_ (i := 11) (N := some 64) (v := undef) (a' := ?_) qq12 rfl rfl (any_of HT_.out (by kernel_rfl)) (fun _ _ _ h => h) (Or.inr ⟨by rfl, rfl⟩) ?_ ?_
       rotate_left; focus (simp only [Act.put, sA, sB, sC, i64_w, i32_w]; rfl)
       refine pure_ (i := 12) (N := some 65) (v := undef) (a' := ?_) qq13 rfl rfl (any_of HT_.out (by kernel_rfl)) (fun _ _ _ h => h) (Or.inr ⟨by rfl, rfl⟩) ?_ ?_
       rotate_left; focus (simp only [Act.put, sA, sB, sC, i64_w, i32_w]; rfl)
       refine pure_ (i := 13) (N := some 66) (v := undef) (a' := ?_) qq14 rfl rfl (any_of HT_.out (by kernel_rfl)) (fun _ _ _ h => h) (Or.inr ⟨by rfl, rfl⟩) ?_ ?_
       rotate_left; focus (simp only [Act.put, sA, sB, sC, i64_w, i32_w]; rfl)
       refine pure_ (i := 14) (N := some 67) (v := undef) (a' := ?_) qq15 rfl rfl (any_of HT_.out (by kernel_rfl)) (fun _ _ _ h => h) (Or.inr ⟨by rfl, rfl⟩) ?_ ?_
       rotate_left; focus (simp only [Act.put, sA, sB, sC, i64_w, i32_w]; rfl)
       refine pure_ (i := 15) (N := some 68) (v := undef) (a' := ?_) qq30 rfl rfl (any_of HT_.out (by kernel_rfl)) (fun _ _ _ h => h) (Or.inr ⟨by rfl, rfl⟩) ?_ ?_
       rotate_left; focus (simp only [Act.put, sA, sB, sC, i64_w, i32_w]; rfl)
       refine pure_ (i := 16) (N := some 69) (v := undef) (a' := ?_) qq17 rfl rfl (any_of HT_.out (by kernel_rfl)) (fun _ _ _ h => h) (Or.inr ⟨by rfl, rfl⟩) ?_ ?_
       rotate_left; focus (simp only [Act.put, sA, sB, sC, i64_w, i32_w]; rfl)
       refine pure_ (i := 17) (N := some 70) (v := undef) (a' := ?_) qq18 rfl rfl (any_of HT_.out (by kernel_rfl)) (fun _ _ _ h => h) (Or.inr ⟨by rfl, rfl⟩) ?_ ?_
       rotate_left; focus (simp only [Act.put, sA, sB, sC, i64_w, i32_w]; rfl)
       refine pure_ (i := 18) (N := some 71) (v := undef) (a' := ?_) qq19 rfl rfl (any_of HT_.out (by kernel_rfl)) (fun _ _ _ h => h) (Or.inr ⟨by rfl, rfl⟩) ?_ ?_
       rotate_left; focus (simp only [Act.put, sA, sB, sC, i64_w, i32_w]; rfl)
       refine pure_ (i := 19) (N := some 72) (v := undef) (a' := ?_) qq20 rfl rfl (any_of HT_.out (by kernel_rfl)) (fun _ _ _ h => h) (Or.inr ⟨by rfl, rfl⟩) ?_ ?_
       rotate_left; focus (simp only [Act.put, sA, sB, sC, i64_w, i32_w]; rfl)
       refine pure_ (i := 20) (N := some 73) (v := undef) (a' := ?_) qq21 rfl rfl (any_of HT_.out (by kernel_rfl)) (fun _ _ _ h => h) (Or.inr ⟨by rfl, rfl⟩) ?_ ?_
       rotate_left; focus (simp only [Act.put, sA, sB, sC, i64_w, i32_w]; rfl)
       refine pure_ (i := 21) (N := some 74) (v := undef) (a' := ?_) qq22 rfl rfl (any_of HT_.out (by kernel_rfl)) (fun _ _ _ h => h) (Or.inr ⟨by rfl, rfl⟩) ?_ ?_
       rotate_left; focus (simp only [Act.put, sA, sB, sC, i64_w, i32_w]; rfl)
       refine pure_ (i := 22) (N := some 75) (v := undef) (a' := ?_) qq31 rfl rfl (any_of HT_.out (by kernel_rfl)) (fun _ _ _ h => h) (Or.inr ⟨by rfl, rfl⟩) ?_ ?_
       rotate_left; focus (simp only [Act.put, sA, sB, sC, i64_w, i32_w]; rfl)
       refine pure_ (i := 23) (N := some 76) (v := undef) (a' := ?_) qq24 rfl rfl (any_of HT_.out (by kernel_rfl)) (fun _ _ _ h => h) (Or.inr ⟨by rfl, rfl⟩) ?_ ?_
       rotate_left; focus (simp only [Act.put, sA, sB, sC, i64_w, i32_w]; rfl)
       refine pure_ (i := 24) (N := some 77) (v := undef) (a' := ?_) qq25 rfl rfl (any_of HT_.out (by kernel_rfl)) (fun _ _ _ h => h) (Or.inr ⟨by rfl, rfl⟩) ?_ ?_
       rotate_left; focus (simp only [Act.put, sA, sB, sC, i64_w, i32_w]; rfl)
       refine pure_ (i := 25) (N := some 78) (v := undef) (a' := ?_) qq26 rfl rfl (any_of HT_.out (by kernel_rfl)) (fun _ _ _ h => h) (Or.inr ⟨by rfl, rfl⟩) ?_ ?_
       rotate_left; focus (simp only [Act.put, sA, sB, sC, i64_w, i32_w]; rfl)
       refine pure_ (i := 26) (N := some 79) (v := undef) (a' := ?_) qq27 rfl rfl (any_of HT_.out (by kernel_rfl)) (fun _ _ _ h => h) (Or.inr ⟨by rfl, rfl⟩) ?_ ?_
       rotate_left; focus (simp only [Act.put, sA, sB, sC, i64_w, i32_w]; rfl)
       refine pure_ (i := 27) (N := some 80) (v := ?_) (a' := ?_) qq28 rfl rfl (any_of HT_.out (by kernel_rfl)) (fun _ _ _ h => h) (Or.inl ⟨by rfl, ?_⟩) ?_ ?_
       rotate_left; focus (intro w'; go_simp; with_reducible rfl)
       rotate_left; focus (simp only [Act.put, sA, sB, sC, i64_w, i32_w]; rfl)
       refine pure_ (i := 28) (N := some 81) (v := ?_) (a' := ?_) qq29 rfl rfl (any_of HT_.out (by kernel_rfl)) (fun _ _ _ h => h) (Or.inl ⟨by rfl, ?_⟩) ?_ ?_
       rotate_left; focus (intro w'; go_simp; with_reducible rfl)
       rotate_left; focus (simp only [Act.put, sA, sB, sC, i64_w, i32_w]; rfl)
       refine done_ (done_of HT_.out (by kernel_rfl)) ?_
       try go_wp2
       go_meet
       case rel => exact ⟨_, (false), (by first | rfl | (simp; done) | (simp [*]; done)), H', ⟨by first | omega | exact Nat.le_refl _⟩, ⟨by (with_reducible repeat (first | refine blk_drewN ?_ _ | refine blk_drew ?_ | refine blk_alloc ?_ _)); exact BK237.out⟩, ⟨by (with_reducible repeat (first | refine blk_drewN ?_ _ | refine blk_drew ?_ | refine blk_alloc ?_ _)); exact BK238.out⟩, ⟨by (with_reducible repeat (first | refine blk_drewN ?_ _ | refine blk_drew ?_ | refine blk_alloc ?_ _)); exact BK242.out⟩, ⟨by (with_reducible repeat (first | refine blk_drewN ?_ _ | refine blk_drew ?_ | refine blk_alloc ?_ _)); exact BK254.out⟩, ⟨by repeat (first | (with_reducible first | exact HB.out | apply below_alloc | apply pw_below_drewN | apply below_drew1) | exact HB.out)⟩⟩
   case rest =>
    clear HC29
    try clear p2
    try clear c3
    try clear c7
    try clear c38
    try clear c74
    try clear c75
    obtain ⟨kq, x81_28, rfl, HA, HJ28, BK237, BK238, BK242, BK254, HB⟩ := hcut
    cases kq with
    | zero => exact absurd HA.out (by simp [laws_FnSpans.j0])
    | succ kj28 =>
     have H := HA.out
     clear HA
     simp only [laws_FnSpans.j0] at H
     by_cases c95 : x81_28 = true
     ·subst c95
      have H1 : (some false) = some true := by rw [if_pos rfl] at H; exact H
      clear H
      have H := H1
      clear H1
      exact absurd (Option.some.inj H) (by decide)
     ·replace c95 := Bool.eq_false_iff.mpr c95
      subst c95
      have H1 : (if t253 = true then ((impl_Holds.f t251 t252 t233).bind fun t259 => (if t259 = true then ((impl_Holds.f t251 t252 t234).bind fun t260 => (if t260 = true then ((impl_Holds.f t251 t252 t235).bind fun t261 => (if t261 = true then ((impl_Holds.f t251 t252 t236).bind fun t262 => (if t262 = true then ((impl_Hours.f t251 t252).bind fun t263 => ((impl_Hours.f t233 t234).bind fun t264 => ((impl_Hours.f t235 t236).bind fun t265 => (if t263 > (wrap64 (t264 + t265)) then (laws_FnSpans.j1 kj28 l0 t241 t241 t233 t234 t235 t236 t239 t240) else (laws_FnSpans.j1 kj28 l0 t241 false t233 t234 t235 t236 t239 t240))))) else (laws_FnSpans.j1 kj28 l0 t241 true t233 t234 t235 t236 t239 t240))) else (laws_FnSpans.j1 kj28 l0 t241 true t233 t234 t235 t236 t239 t240))) else (laws_FnSpans.j1 kj28 l0 t241 true t233 t234 t235 t236 t239 t240))) else (laws_FnSpans.j1 kj28 l0 t241 true t233 t234 t235 t236 t239 t240))) else (laws_FnSpans.j1 kj28 l0 t241 false t233 t234 t235 t236 t239 t240)) = some true := by rw [if_neg (show ¬ (false = true) by decide)] at H; exact H
      clear H
      have H := H1
      clear H1
      have HC96 := Aside0.mk H
      clear H
      go_upto_region 12 with (fail)
      go_cut [123] (fun v123 wc => ∃ (kq : Nat) (x123_95 : Bool), v123 = .bool x123_95 ∧ Aside0 (laws_FnSpans.j1 kq l0 t241 x123_95 t233 t234 t235 t236 t239 t240 = some true) ∧ Aside0 (kq ≤ kj28) ∧ Aside0 (wc.heap[gb237]? = some (.cells #[.int .i64 t233, .int .i64 t234] 54 (0, 0))) ∧ Aside0 (wc.heap[gb238]? = some (.cells #[.int .i64 t235, .int .i64 t236] 54 (0, 0))) ∧ Aside0 (wc.heap[gb242]? = some (.cells #[.int .i64 t239, .int .i64 t240] 54 (0, 0))) ∧ Aside0 (Below w.heap.size w wc))
      case first =>
       have H := HC96.out
       clear HC96
       by_cases c97 : t253 = true
       ·subst c97
        have H1 : ((impl_Holds.f t251 t252 t233).bind fun t259 => (if t259 = true then ((impl_Holds.f t251 t252 t234).bind fun t260 => (if t260 = true then ((impl_Holds.f t251 t252 t235).bind fun t261 => (if t261 = true then ((impl_Holds.f t251 t252 t236).bind fun t262 => (if t262 = true then ((impl_Hours.f t251 t252).bind fun t263 => ((impl_Hours.f t233 t234).bind fun t264 => ((impl_Hours.f t235 t236).bind fun t265 => (if t263 > (wrap64 (t264 + t265)) then (laws_FnSpans.j1 kj28 l0 t241 t241 t233 t234 t235 t236 t239 t240) else (laws_FnSpans.j1 kj28 l0 t241 false t233 t234 t235 t236 t239 t240))))) else (laws_FnSpans.j1 kj28 l0 t241 true t233 t234 t235 t236 t239 t240))) else (laws_FnSpans.j1 kj28 l0 t241 true t233 t234 t235 t236 t239 t240))) else (laws_FnSpans.j1 kj28 l0 t241 true t233 t234 t235 t236 t239 t240))) else (laws_FnSpans.j1 kj28 l0 t241 true t233 t234 t235 t236 t239 t240))) = some true := by rw [if_pos rfl] at H; exact H
        clear H
        have H := H1
        clear H1
        replace H := Option.bind_eq_some_iff.mp H
        obtain ⟨t259, A980, H⟩ := H
        replace H : (if t259 = true then ((impl_Holds.f t251 t252 t234).bind fun t260 => (if t260 = true then ((impl_Holds.f t251 t252 t235).bind fun t261 => (if t261 = true then ((impl_Holds.f t251 t252 t236).bind fun t262 => (if t262 = true then ((impl_Hours.f t251 t252).bind fun t263 => ((impl_Hours.f t233 t234).bind fun t264 => ((impl_Hours.f t235 t236).bind fun t265 => (if t263 > (wrap64 (t264 + t265)) then (laws_FnSpans.j1 kj28 l0 t241 t241 t233 t234 t235 t236 t239 t240) else (laws_FnSpans.j1 kj28 l0 t241 false t233 t234 t235 t236 t239 t240))))) else (laws_FnSpans.j1 kj28 l0 t241 true t233 t234 t235 t236 t239 t240))) else (laws_FnSpans.j1 kj28 l0 t241 true t233 t234 t235 t236 t239 t240))) else (laws_FnSpans.j1 kj28 l0 t241 true t233 t234 t235 t236 t239 t240))) else (laws_FnSpans.j1 kj28 l0 t241 true t233 t234 t235 t236 t239 t240)) = some true := H
        have A98 := Aside0.mk A980
        clear A980
        by_cases c99 : t259 = true
        ·subst c99
         have H1 : ((impl_Holds.f t251 t252 t234).bind fun t260 => (if t260 = true then ((impl_Holds.f t251 t252 t235).bind fun t261 => (if t261 = true then ((impl_Holds.f t251 t252 t236).bind fun t262 => (if t262 = true then ((impl_Hours.f t251 t252).bind fun t263 => ((impl_Hours.f t233 t234).bind fun t264 => ((impl_Hours.f t235 t236).bind fun t265 => (if t263 > (wrap64 (t264 + t265)) then (laws_FnSpans.j1 kj28 l0 t241 t241 t233 t234 t235 t236 t239 t240) else (laws_FnSpans.j1 kj28 l0 t241 false t233 t234 t235 t236 t239 t240))))) else (laws_FnSpans.j1 kj28 l0 t241 true t233 t234 t235 t236 t239 t240))) else (laws_FnSpans.j1 kj28 l0 t241 true t233 t234 t235 t236 t239 t240))) else (laws_FnSpans.j1 kj28 l0 t241 true t233 t234 t235 t236 t239 t240))) = some true := by rw [if_pos rfl] at H; exact H
         clear H
         have H := H1
         clear H1
         replace H := Option.bind_eq_some_iff.mp H
         obtain ⟨t260, A1000, H⟩ := H
         replace H : (if t260 = true then ((impl_Holds.f t251 t252 t235).bind fun t261 => (if t261 = true then ((impl_Holds.f t251 t252 t236).bind fun t262 => (if t262 = true then ((impl_Hours.f t251 t252).bind fun t263 => ((impl_Hours.f t233 t234).bind fun t264 => ((impl_Hours.f t235 t236).bind fun t265 => (if t263 > (wrap64 (t264 + t265)) then (laws_FnSpans.j1 kj28 l0 t241 t241 t233 t234 t235 t236 t239 t240) else (laws_FnSpans.j1 kj28 l0 t241 false t233 t234 t235 t236 t239 t240))))) else (laws_FnSpans.j1 kj28 l0 t241 true t233 t234 t235 t236 t239 t240))) else (laws_FnSpans.j1 kj28 l0 t241 true t233 t234 t235 t236 t239 t240))) else (laws_FnSpans.j1 kj28 l0 t241 true t233 t234 t235 t236 t239 t240)) = some true := H
         have A100 := Aside0.mk A1000
         clear A1000
         by_cases c101 : t260 = true
         ·subst c101
          have H1 : ((impl_Holds.f t251 t252 t235).bind fun t261 => (if t261 = true then ((impl_Holds.f t251 t252 t236).bind fun t262 => (if t262 = true then ((impl_Hours.f t251 t252).bind fun t263 => ((impl_Hours.f t233 t234).bind fun t264 => ((impl_Hours.f t235 t236).bind fun t265 => (if t263 > (wrap64 (t264 + t265)) then (laws_FnSpans.j1 kj28 l0 t241 t241 t233 t234 t235 t236 t239 t240) else (laws_FnSpans.j1 kj28 l0 t241 false t233 t234 t235 t236 t239 t240))))) else (laws_FnSpans.j1 kj28 l0 t241 true t233 t234 t235 t236 t239 t240))) else (laws_FnSpans.j1 kj28 l0 t241 true t233 t234 t235 t236 t239 t240))) = some true := by rw [if_pos rfl] at H; exact H
          clear H
          have H := H1
          clear H1
          replace H := Option.bind_eq_some_iff.mp H
          obtain ⟨t261, A1020, H⟩ := H
          replace H : (if t261 = true then ((impl_Holds.f t251 t252 t236).bind fun t262 => (if t262 = true then ((impl_Hours.f t251 t252).bind fun t263 => ((impl_Hours.f t233 t234).bind fun t264 => ((impl_Hours.f t235 t236).bind fun t265 => (if t263 > (wrap64 (t264 + t265)) then (laws_FnSpans.j1 kj28 l0 t241 t241 t233 t234 t235 t236 t239 t240) else (laws_FnSpans.j1 kj28 l0 t241 false t233 t234 t235 t236 t239 t240))))) else (laws_FnSpans.j1 kj28 l0 t241 true t233 t234 t235 t236 t239 t240))) else (laws_FnSpans.j1 kj28 l0 t241 true t233 t234 t235 t236 t239 t240)) = some true := H
          have A102 := Aside0.mk A1020
          clear A1020
          by_cases c103 : t261 = true
          ·subst c103
           have H1 : ((impl_Holds.f t251 t252 t236).bind fun t262 => (if t262 = true then ((impl_Hours.f t251 t252).bind fun t263 => ((impl_Hours.f t233 t234).bind fun t264 => ((impl_Hours.f t235 t236).bind fun t265 => (if t263 > (wrap64 (t264 + t265)) then (laws_FnSpans.j1 kj28 l0 t241 t241 t233 t234 t235 t236 t239 t240) else (laws_FnSpans.j1 kj28 l0 t241 false t233 t234 t235 t236 t239 t240))))) else (laws_FnSpans.j1 kj28 l0 t241 true t233 t234 t235 t236 t239 t240))) = some true := by rw [if_pos rfl] at H; exact H
           clear H
           have H := H1
           clear H1
           replace H := Option.bind_eq_some_iff.mp H
           obtain ⟨t262, A1040, H⟩ := H
           replace H : (if t262 = true then ((impl_Hours.f t251 t252).bind fun t263 => ((impl_Hours.f t233 t234).bind fun t264 => ((impl_Hours.f t235 t236).bind fun t265 => (if t263 > (wrap64 (t264 + t265)) then (laws_FnSpans.j1 kj28 l0 t241 t241 t233 t234 t235 t236 t239 t240) else (laws_FnSpans.j1 kj28 l0 t241 false t233 t234 t235 t236 t239 t240))))) else (laws_FnSpans.j1 kj28 l0 t241 true t233 t234 t235 t236 t239 t240)) = some true := H
           have A104 := Aside0.mk A1040
           clear A1040
           by_cases c105 : t262 = true
           ·subst c105
            have H1 : ((impl_Hours.f t251 t252).bind fun t263 => ((impl_Hours.f t233 t234).bind fun t264 => ((impl_Hours.f t235 t236).bind fun t265 => (if t263 > (wrap64 (t264 + t265)) then (laws_FnSpans.j1 kj28 l0 t241 t241 t233 t234 t235 t236 t239 t240) else (laws_FnSpans.j1 kj28 l0 t241 false t233 t234 t235 t236 t239 t240))))) = some true := by rw [if_pos rfl] at H; exact H
            clear H
            have H := H1
            clear H1
            replace H := Option.bind_eq_some_iff.mp H
            obtain ⟨t263, A1060, H⟩ := H
            replace H : ((impl_Hours.f t233 t234).bind fun t264 => ((impl_Hours.f t235 t236).bind fun t265 => (if t263 > (wrap64 (t264 + t265)) then (laws_FnSpans.j1 kj28 l0 t241 t241 t233 t234 t235 t236 t239 t240) else (laws_FnSpans.j1 kj28 l0 t241 false t233 t234 t235 t236 t239 t240)))) = some true := H
            have A106 := Aside0.mk A1060
            clear A1060
            replace H := Option.bind_eq_some_iff.mp H
            obtain ⟨t264, A1070, H⟩ := H
            replace H : ((impl_Hours.f t235 t236).bind fun t265 => (if t263 > (wrap64 (t264 + t265)) then (laws_FnSpans.j1 kj28 l0 t241 t241 t233 t234 t235 t236 t239 t240) else (laws_FnSpans.j1 kj28 l0 t241 false t233 t234 t235 t236 t239 t240))) = some true := H
            have A107 := Aside0.mk A1070
            clear A1070
            replace H := Option.bind_eq_some_iff.mp H
            obtain ⟨t265, A1080, H⟩ := H
            replace H : (if t263 > (wrap64 (t264 + t265)) then (laws_FnSpans.j1 kj28 l0 t241 t241 t233 t234 t235 t236 t239 t240) else (laws_FnSpans.j1 kj28 l0 t241 false t233 t234 t235 t236 t239 t240)) = some true := H
            have A108 := Aside0.mk A1080
            clear A1080
            by_cases c109 : t263 > (wrap64 (t264 + t265))
            ·rw [if_pos c109] at H
             have c109b0 : decide ((wrap64 (t264 + t265)) < t263) = true := decide_eq_true c109
             clear c109
             (first | rw [c109b0] | (simp only [i64_w, i32_w]; rw [c109b0]) | skip)
             have H' := Aside0.mk H
             clear H
             try go_wp2
             have n0_ := Aside0.mk (blk_drew BK237.out)
             have n1_ := Aside0.mk (blk_drew BK238.out)
             have n2_ := Aside0.mk (blk_drew BK242.out)
             have n5_ := Aside0.mk (blk_drew BK254.out)
             have n6_ := Aside0.mk (below_drew1 HB.out)
             clear BK237; clear BK238
             clear BK242
             clear BK250; clear BK254; clear HB
             have BK237 := n0_
             have BK238 := n1_
             have BK242 := n2_
             have BK254 := n5_
             have HB := n6_
             clear n0_ n1_ n2_ n5_ n6_
             refine start_ (n := 42) (S := fun w' => w'.cell? ⟨gb254, 0, none⟩ = some (.int .i64 t251) ∧ w'.cell? ⟨gb254, 1, none⟩ = some (.int .i64 t252) ∧ w'.cell? ⟨gb237, 0, none⟩ = some (.int .i64 t233) ∧ w'.cell? ⟨gb237, 1, none⟩ = some (.int .i64 t234) ∧ w'.cell? ⟨gb238, 0, none⟩ = some (.int .i64 t235) ∧ w'.cell? ⟨gb238, 1, none⟩ = some (.int .i64 t236)) (ds := []) qq32 (by kernel_rfl) rfl rfl ⟨(blk_cell BK254.out 0).trans rfl, (blk_cell BK254.out 1).trans rfl, (blk_cell BK237.out 0).trans rfl, (blk_cell BK237.out 1).trans rfl, (blk_cell BK238.out 0).trans rfl, (blk_cell BK238.out 1).trans rfl⟩ (fun hHeld => ?_); refine with_tabW laws_FnSpans.tab12 laws_FnSpans.bits12 (fun HT_ HW_ => ?_)
             generalize wc.drew = w110 at BK237 BK238 BK242 BK254 HB hHeld ⊢
             refine pure_ (i := 0) (N := some 82) (v := ?_) (a' := ?_) qq33 rfl rfl (any_of HT_.out (by kernel_rfl)) (fun _ _ _ h => h) (Or.inl ⟨by rfl, ?_⟩) ?_ ?_
             rotate_left; focus (intro w'; go_simp; with_reducible rfl)
             rotate_left; focus (simp only [Act.put, sA, sB, sC, i64_w, i32_w]; rfl)
             refine pure_ (i := 1) (N := some 83) (v := ?_) (a' := ?_) qq34 rfl rfl (any_of HT_.out (by kernel_rfl)) (fun _ _ _ h => h) (Or.inl ⟨by rfl, ?_⟩) ?_ ?_
             rotate_left; focus (intro w'; go_simp; with_reducible rfl)
             rotate_left; focus (simp only [Act.put, sA, sB, sC, i64_w, i32_w]; rfl)
             refine pure_ (i := 3) (N := some 85) (v := ?_) (a' := ?_) qq35 rfl rfl (any_of HT_.out (by kernel_rfl)) (fun _ _ _ h => h) (Or.inl ⟨by rfl, ?_⟩) ?_ ?_
             rotate_left; focus (intro w'; go_simp; with_reducible rfl)
             rotate_left; focus (simp only [Act.put, sA, sB, sC, i64_w, i32_w]; rfl)
             refine take_ (i := 2) (N := some 84) (v := ?_) (a' := ?_) qq36 rfl rfl (take_ofW HT_.out HW_.out (by kernel_rfl)) (fun _ _ _ h => h) (Or.inl ⟨by rfl, ?_⟩) hHeld ?_ ?_
             rotate_left; focus (rintro w' ⟨s0, s1, s2, s3, s4, s5⟩; go_simp; with_reducible rfl)
             rotate_left; focus (simp only [Act.put, sA, sB, sC, i64_w, i32_w]; rfl)
             refine take_ (i := 4) (N := some 86) (v := ?_) (a' := ?_) qq37 rfl rfl (take_ofW HT_.out HW_.out (by kernel_rfl)) (fun _ _ _ h => h) (Or.inl ⟨by rfl, ?_⟩) hHeld ?_ ?_
             rotate_left; focus (rintro w' ⟨s0, s1, s2, s3, s4, s5⟩; go_simp; with_reducible rfl)
             rotate_left; focus (simp only [Act.put, sA, sB, sC, i64_w, i32_w]; rfl)
             refine one_ (i := 5) (N := some 87) qq38 rfl rfl (one_of HT_.out (by kernel_rfl)) (by decide) (fun K hK => ?_)
             refine goes_ Try.func39 (by kernel_rfl) rfl #[.agg #[.int .i64 t251, .int .i64 t252], .int .i64 t233] (by rfl) rfl rfl (by (try simp only [List.map_toArray, List.map_cons, List.map_nil]); first | done | rfl | (simp only [List.length_drop, List.length_take]; rfl)) ?_
             with_reducible refine (impl_Holds.calls t251 t252 t233 true _ A98.out).mono ?_
             rintro e w111 ⟨rfl, hb⟩
             refine ⟨_, rfl, ?_⟩
             have n0_ := qcb hb BK237
             have n1_ := qcb hb BK238
             have n2_ := qcb hb BK242
             have n5_ := qcb hb BK254
             have n6_ := Aside0.mk (below_step (by repeat (first | (with_reducible first | exact HB.out | apply below_alloc | apply pw_below_drewN | apply below_drew1) | exact HB.out)) hb)
             clear BK237; clear BK238
             clear BK242
             clear BK254; clear HB
             have BK237 := n0_
             have BK238 := n1_
             have BK242 := n2_
             have BK254 := n5_
             have HB := n6_
             clear n0_ n1_ n2_ n5_ n6_; (try clear hb)
             (try clear hb2); (try clear hk); (try clear hi)
             refine hK.out _ _ ⟨(blk_cell BK254.out 0).trans rfl, (blk_cell BK254.out 1).trans rfl, (blk_cell BK237.out 0).trans rfl, (blk_cell BK237.out 1).trans rfl, (blk_cell BK238.out 0).trans rfl, (blk_cell BK238.out 1).trans rfl⟩ (fun hHeld => ?_)
             clear hK K
             refine norm_ (a' := ?_) ?_ ?_
             rotate_left; focus (show Act.put _ (some 87) _ = _; simp only [Act.put, sA, sB, sC, i64_w, i32_w]; rfl)
             refine pure_ (i := 6) (N := some 88) (v := ?_) (a' := ?_) qq39 rfl rfl (any_of HT_.out (by kernel_rfl)) (fun _ _ _ h => h) (Or.inl ⟨by rfl, ?_⟩) ?_ ?_
             rotate_left; focus (intro w'; go_simp; with_reducible rfl)
             rotate_left; focus (simp only [Act.put, sA, sB, sC, i64_w, i32_w]; rfl)
             refine pure_ (i := 7) (N := some 89) (v := ?_) (a' := ?_) qq40 rfl rfl (any_of HT_.out (by kernel_rfl)) (fun _ _ _ h => h) (Or.inl ⟨by rfl, ?_⟩) ?_ ?_
             rotate_left; focus (intro w'; go_simp; with_reducible rfl)
             rotate_left; focus (simp only [Act.put, sA, sB, sC, i64_w, i32_w]; rfl)
             refine pure_ (i := 9) (N := some 91) (v := ?_) (a' := ?_) qq41 rfl rfl (any_of HT_.out (by kernel_rfl)) (fun _ _ _ h => h) (Or.inl ⟨by rfl, ?_⟩) ?_ ?_
             rotate_left; focus (intro w'; go_simp; with_reducible rfl)
             rotate_left; focus (simp only [Act.put, sA, sB, sC, i64_w, i32_w]; rfl)
             refine take_ (i := 8) (N := some 90) (v := ?_) (a' := ?_) qq42 rfl rfl (take_ofW HT_.out HW_.out (by kernel_rfl)) (fun _ _ _ h => h) (Or.inl ⟨by rfl, ?_⟩) hHeld ?_ ?_
             rotate_left; focus (rintro w' ⟨s0, s1, s2, s3, s4, s5⟩; go_simp; with_reducible rfl)
             rotate_left; focus (simp only [Act.put, sA, sB, sC, i64_w, i32_w]; rfl)
             refine take_ (i := 10) (N := some 92) (v := ?_) (a' := ?_) qq43 rfl rfl (take_ofW HT_.out HW_.out (by kernel_rfl)) (fun _ _ _ h => h) (Or.inl ⟨by rfl, ?_⟩) hHeld ?_ ?_
             rotate_left; focus (rintro w' ⟨s0, s1, s2, s3, s4, s5⟩; go_simp; with_reducible rfl)
             rotate_left; focus (simp only [Act.put, sA, sB, sC, i64_w, i32_w]; rfl)
             refine one_ (i := 11) (N := some 93) qq44 rfl rfl (one_of HT_.out (by kernel_rfl)) (by decide) (fun K hK => ?_)
             refine goes_ Try.func39 (by kernel_rfl) rfl #[.agg #[.int .i64 t251, .int .i64 t252], .int .i64 t234] (by rfl) rfl rfl (by (try simp only [List.map_toArray, List.map_cons, List.map_nil]); first | done | rfl | (simp only [List.length_drop, List.length_take]; rfl)) ?_
             with_reducible refine (impl_Holds.calls t251 t252 t234 true _ A100.out).mono ?_
             rintro e w112 ⟨rfl, hb⟩
             refine ⟨_, rfl, ?_⟩
             have n0_ := qcb hb BK237
             have n1_ := qcb hb BK238
             have n2_ := qcb hb BK242
             have n5_ := qcb hb BK254
             have n6_ := Aside0.mk (below_step (by repeat (first | (with_reducible first | exact HB.out | apply below_alloc | apply pw_below_drewN | apply below_drew1) | exact HB.out)) hb)
             clear BK237; clear BK238
             clear BK242
             clear BK254; clear HB
             have BK237 := n0_
             have BK238 := n1_
             have BK242 := n2_
             have BK254 := n5_
             have HB := n6_
             clear n0_ n1_ n2_ n5_ n6_; (try clear hb)
             (try clear hb2); (try clear hk); (try clear hi)
             refine hK.out _ _ ⟨(blk_cell BK254.out 0).trans rfl, (blk_cell BK254.out 1).trans rfl, (blk_cell BK237.out 0).trans rfl, (blk_cell BK237.out 1).trans rfl, (blk_cell BK238.out 0).trans rfl, (blk_cell BK238.out 1).trans rfl⟩ (fun hHeld => ?_)
             clear hK K
             refine norm_ (a' := ?_) ?_ ?_
             rotate_left; focus (show Act.put _ (some 93) _ = _; simp only [Act.put, sA, sB, sC, i64_w, i32_w]; rfl)
             refine pure_ (i := 12) (N := some 94) (v := ?_) (a' := ?_) qq45 rfl rfl (any_of HT_.out (by kernel_rfl)) (fun _ _ _ h => h) (Or.inl ⟨by rfl, ?_⟩) ?_ ?_
             rotate_left; focus (intro w'; go_simp; with_reducible rfl)
             rotate_left; focus (simp only [Act.put, sA, sB, sC, i64_w, i32_w]; rfl)
             refine pure_ (i := 13) (N := some 95) (v := ?_) (a' := ?_) qq46 rfl rfl (any_of HT_.out (by kernel_rfl)) (fun _ _ _ h => h) (Or.inl ⟨by rfl, ?_⟩) ?_ ?_
             rotate_left; focus (intro w'; go_simp; with_reducible rfl)
             rotate_left; focus (simp only [Act.put, sA, sB, sC, i64_w, i32_w]; rfl)
             refine pure_ (i := 14) (N := some 96) (v := ?_) (a' := ?_) qq47 rfl rfl (any_of HT_.out (by kernel_rfl)) (fun _ _ _ h => h) (Or.inl ⟨by rfl, ?_⟩) ?_ ?_
             rotate_left; focus (intro w'; go_simp; with_reducible rfl)
             rotate_left; focus (simp only [Act.put, sA, sB, sC, i64_w, i32_w]; rfl)
             refine pure_ (i := 16) (N := some 98) (v := ?_) (a' := ?_) qq48 rfl rfl (any_of HT_.out (by kernel_rfl)) (fun _ _ _ h => h) (Or.inl ⟨by rfl, ?_⟩) ?_ ?_
             rotate_left; focus (intro w'; go_simp; with_reducible rfl)
             rotate_left; focus (simp only [Act.put, sA, sB, sC, i64_w, i32_w]; rfl)
             refine take_ (i := 15) (N := some 97) (v := ?_) (a' := ?_) qq49 rfl rfl (take_ofW HT_.out HW_.out (by kernel_rfl)) (fun _ _ _ h => h) (Or.inl ⟨by rfl, ?_⟩) hHeld ?_ ?_
             rotate_left; focus (rintro w' ⟨s0, s1, s2, s3, s4, s5⟩; go_simp; with_reducible rfl)
             rotate_left; focus (simp only [Act.put, sA, sB, sC, i64_w, i32_w]; rfl)
             refine take_ (i := 17) (N := some 99) (v := ?_) (a' := ?_) qq50 rfl rfl (take_ofW HT_.out HW_.out (by kernel_rfl)) (fun _ _ _ h => h) (Or.inl ⟨by rfl, ?_⟩) hHeld ?_ ?_
             rotate_left; focus (rintro w' ⟨s0, s1, s2, s3, s4, s5⟩; go_simp; with_reducible rfl)
             rotate_left; focus (simp only [Act.put, sA, sB, sC, i64_w, i32_w]; rfl)
             refine one_ (i := 18) (N := some 100) qq51 rfl rfl (one_of HT_.out (by kernel_rfl)) (by decide) (fun K hK => ?_)
             refine goes_ Try.func39 (by kernel_rfl) rfl #[.agg #[.int .i64 t251, .int .i64 t252], .int .i64 t235] (by rfl) rfl rfl (by (try simp only [List.map_toArray, List.map_cons, List.map_nil]); first | done | rfl | (simp only [List.length_drop, List.length_take]; rfl)) ?_
             with_reducible refine (impl_Holds.calls t251 t252 t235 true _ A102.out).mono ?_
             rintro e w113 ⟨rfl, hb⟩
             refine ⟨_, rfl, ?_⟩
             have n0_ := qcb hb BK237
             have n1_ := qcb hb BK238
             have n2_ := qcb hb BK242
             have n5_ := qcb hb BK254
             have n6_ := Aside0.mk (below_step (by repeat (first | (with_reducible first | exact HB.out | apply below_alloc | apply pw_below_drewN | apply below_drew1) | exact HB.out)) hb)
             clear BK237; clear BK238
             clear BK242
             clear BK254; clear HB
             have BK237 := n0_
             have BK238 := n1_
             have BK242 := n2_
             have BK254 := n5_
             have HB := n6_
             clear n0_ n1_ n2_ n5_ n6_; (try clear hb)
             (try clear hb2); (try clear hk); (try clear hi)
             refine hK.out _ _ ⟨(blk_cell BK254.out 0).trans rfl, (blk_cell BK254.out 1).trans rfl, (blk_cell BK237.out 0).trans rfl, (blk_cell BK237.out 1).trans rfl, (blk_cell BK238.out 0).trans rfl, (blk_cell BK238.out 1).trans rfl⟩ (fun hHeld => ?_)
             clear hK K
             refine norm_ (a' := ?_) ?_ ?_
             rotate_left; focus (show Act.put _ (some 100) _ = _; simp only [Act.put, sA, sB, sC, i64_w, i32_w]; rfl)
             refine pure_ (i := 19) (N := some 101) (v := ?_) (a' := ?_) qq52 rfl rfl (any_of HT_.out (by kernel_rfl)) (fun _ _ _ h => h) (Or.inl ⟨by rfl, ?_⟩) ?_ ?_
             rotate_left; focus (intro w'; go_simp; with_reducible rfl)
             rotate_left; focus (simp only [Act.put, sA, sB, sC, i64_w, i32_w]; rfl)
             refine pure_ (i := 20) (N := some 102) (v := ?_) (a' := ?_) qq53 rfl rfl (any_of HT_.out (by kernel_rfl)) (fun _ _ _ h => h) (Or.inl ⟨by rfl, ?_⟩) ?_ ?_
             rotate_left; focus (intro w'; go_simp; with_reducible rfl)
             rotate_left; focus (simp only [Act.put, sA, sB, sC, i64_w, i32_w]; rfl)
             refine pure_ (i := 21) (N := some 103) (v := ?_) (a' := ?_) qq54 rfl rfl (any_of HT_.out (by kernel_rfl)) (fun _ _ _ h => h) (Or.inl ⟨by rfl, ?_⟩) ?_ ?_
             rotate_left; focus (intro w'; go_simp; with_reducible rfl)
             rotate_left; focus (simp only [Act.put, sA, sB, sC, i64_w, i32_w]; rfl)
             refine pure_ (i := 23) (N := some 105) (v := ?_) (a' := ?_) qq55 rfl rfl (any_of HT_.out (by kernel_rfl)) (fun _ _ _ h => h) (Or.inl ⟨by rfl, ?_⟩) ?_ ?_
             rotate_left; focus (intro w'; go_simp; with_reducible rfl)
             rotate_left; focus (simp only [Act.put, sA, sB, sC, i64_w, i32_w]; rfl)
             refine take_ (i := 22) (N := some 104) (v := ?_) (a' := ?_) qq56 rfl rfl (take_ofW HT_.out HW_.out (by kernel_rfl)) (fun _ _ _ h => h) (Or.inl ⟨by rfl, ?_⟩) hHeld ?_ ?_
             rotate_left; focus (rintro w' ⟨s0, s1, s2, s3, s4, s5⟩; go_simp; with_reducible rfl)
             rotate_left; focus (simp only [Act.put, sA, sB, sC, i64_w, i32_w]; rfl)
             refine take_ (i := 24) (N := some 106) (v := ?_) (a' := ?_) qq57 rfl rfl (take_ofW HT_.out HW_.out (by kernel_rfl)) (fun _ _ _ h => h) (Or.inl ⟨by rfl, ?_⟩) hHeld ?_ ?_
             rotate_left; focus (rintro w' ⟨s0, s1, s2, s3, s4, s5⟩; go_simp; with_reducible rfl)
             rotate_left; focus (simp only [Act.put, sA, sB, sC, i64_w, i32_w]; rfl)
             refine one_ (i := 25) (N := some 107) qq58 rfl rfl (one_of HT_.out (by kernel_rfl)) (by decide) (fun K hK => ?_)
             refine goes_ Try.func39 (by kernel_rfl) rfl #[.agg #[.int .i64 t251, .int .i64 t252], .int .i64 t236] (by rfl) rfl rfl (by (try simp only [List.map_toArray, List.map_cons, List.map_nil]); first | done | rfl | (simp only [List.length_drop, List.length_take]; rfl)) ?_
             with_reducible refine (impl_Holds.calls t251 t252 t236 true _ A104.out).mono ?_
             rintro e w114 ⟨rfl, hb⟩
             refine ⟨_, rfl, ?_⟩
             have n0_ := qcb hb BK237
             have n1_ := qcb hb BK238
             have n2_ := qcb hb BK242
             have n5_ := qcb hb BK254
             have n6_ := Aside0.mk (below_step (by repeat (first | (with_reducible first | exact HB.out | apply below_alloc | apply pw_below_drewN | apply below_drew1) | exact HB.out)) hb)
             clear BK237; clear BK238
             clear BK242
             clear BK254; clear HB
             have BK237 := n0_
             have BK238 := n1_
             have BK242 := n2_
             have BK254 := n5_
             have HB := n6_
             clear n0_ n1_ n2_ n5_ n6_; (try clear hb)
             (try clear hb2); (try clear hk); (try clear hi)
             refine hK.out _ _ ⟨(blk_cell BK254.out 0).trans rfl, (blk_cell BK254.out 1).trans rfl, (blk_cell BK237.out 0).trans rfl, (blk_cell BK237.out 1).trans rfl, (blk_cell BK238.out 0).trans rfl, (blk_cell BK238.out 1).trans rfl⟩ (fun hHeld => ?_)
             clear hK K
             refine norm_ (a' := ?_) ?_ ?_
             rotate_left; focus (show Act.put _ (some 107) _ = _; simp only [Act.put, sA, sB, sC, i64_w, i32_w]; rfl)
             refine pure_ (i := 26) (N := some 108) (v := ?_) (a' := ?_) qq59 rfl rfl (any_of HT_.out (by kernel_rfl)) (fun _ _ _ h => h) (Or.inl ⟨by rfl, ?_⟩) ?_ ?_
             rotate_left; focus (intro w'; go_simp; with_reducible rfl)
             rotate_left; focus (simp only [Act.put, sA, sB, sC, i64_w, i32_w]; rfl)
             refine pure_ (i := 27) (N := some 109) (v := ?_) (a' := ?_) qq60 rfl rfl (any_of HT_.out (by kernel_rfl)) (fun _ _ _ h => h) (Or.inl ⟨by rfl, ?_⟩) ?_ ?_
             rotate_left; focus (intro w'; go_simp; with_reducible rfl)
             rotate_left; focus (simp only [Act.put, sA, sB, sC, i64_w, i32_w]; rfl)
             refine pure_ (i := 28) (N := some 110) (v := ?_) (a' := ?_) qq61 rfl rfl (any_of HT_.out (by kernel_rfl)) (fun _ _ _ h => h) (Or.inl ⟨by rfl, ?_⟩) ?_ ?_
             rotate_left; focus (intro w'; go_simp; with_reducible rfl)
             rotate_left; focus (simp only [Act.put, sA, sB, sC, i64_w, i32_w]; rfl)
             refine take_ (i := 29) (N := some 111) (v := ?_) (a' := ?_) qq62 rfl rfl (take_ofW HT_.out HW_.out (by kernel_rfl)) (fun _ _ _ h => h) (Or.inl ⟨by rfl, ?_⟩) hHeld ?_ ?_
             rotate_left; focus (rintro w' ⟨s0, s1, s2, s3, s4, s5⟩; go_simp; with_reducible rfl)
             rotate_left; focus (simp only [Act.put, sA, sB, sC, i64_w, i32_w]; rfl)
             refine take_ (i := 31) (N := some 113) (v := ?_) (a' := ?_) qq63 rfl rfl (take_ofW HT_.out HW_.out (by kernel_rfl)) (fun _ _ _ h => h) (Or.inl ⟨by rfl, ?_⟩) hHeld ?_ ?_
             rotate_left; focus (rintro w' ⟨s0, s1, s2, s3, s4, s5⟩; go_simp; with_reducible rfl)
             rotate_left; focus (simp only [Act.put, sA, sB, sC, i64_w, i32_w]; rfl)
             refine take_ (i := 33) (N := some 115) (v := ?_) (a' := ?_) qq64 rfl rfl (take_ofW HT_.out HW_.out (by kernel_rfl)) (fun _ _ _ h => h) (Or.inl ⟨by rfl, ?_⟩) hHeld ?_ ?_
             rotate_left; focus (rintro w' ⟨s0, s1, s2, s3, s4, s5⟩; go_simp; with_reducible rfl)
             rotate_left; focus (simp only [Act.put, sA, sB, sC, i64_w, i32_w]; rfl)
             refine one_ (i := 30) (N := some 112) qq65 rfl rfl (one_of HT_.out (by kernel_rfl)) (by decide) (fun K hK => ?_)
             refine goes_ Try.func38 (by kernel_rfl) rfl #[.agg #[.int .i64 t251, .int .i64 t252]] (by rfl) rfl rfl (by (try simp only [List.map_toArray, List.map_cons, List.map_nil]); first | done | rfl | (simp only [List.length_drop, List.length_take]; rfl)) ?_
             with_reducible refine (impl_Hours.calls t251 t252 t263 _ A106.out).mono ?_
             rintro e w115 ⟨rfl, hb⟩
             refine ⟨_, rfl, ?_⟩
             have n0_ := qcb hb BK237
             have n1_ := qcb hb BK238
             have n2_ := qcb hb BK242
             have n5_ := qcb hb BK254
             have n6_ := Aside0.mk (below_step (by repeat (first | (with_reducible first | exact HB.out | apply below_alloc | apply pw_below_drewN | apply below_drew1) | exact HB.out)) hb)
             clear BK237; clear BK238
             clear BK242
             clear BK254; clear HB
             have BK237 := n0_
             have BK238 := n1_
             have BK242 := n2_
             have BK254 := n5_
             have HB := n6_
             clear n0_ n1_ n2_ n5_ n6_; (try clear hb)
             (try clear hb2); (try clear hk); (try clear hi)
             refine hK.out _ _ ⟨(blk_cell BK254.out 0).trans rfl, (blk_cell BK254.out 1).trans rfl, (blk_cell BK237.out 0).trans rfl, (blk_cell BK237.out 1).trans rfl, (blk_cell BK238.out 0).trans rfl, (blk_cell BK238.out 1).trans rfl⟩ (fun hHeld => ?_)
             clear hK K
             refine norm_ (a' := ?_) ?_ ?_
             rotate_left; focus (show Act.put _ (some 112) _ = _; simp only [Act.put, sA, sB, sC, i64_w, i32_w]; rfl)
             refine one_ (i := 32) (N := some 114) qq66 rfl rfl (one_of HT_.out (by kernel_rfl)) (by decide) (fun K hK => ?_)
             refine goes_ Try.func38 (by kernel_rfl) rfl #[.agg #[.int .i64 t233, .int .i64 t234]] (by rfl) rfl rfl (by (try simp only [List.map_toArray, List.map_cons, List.map_nil]); first | done | rfl | (simp only [List.length_drop, List.length_take]; rfl)) ?_
             with_reducible refine (impl_Hours.calls t233 t234 t264 _ A107.out).mono ?_
             rintro e w116 ⟨rfl, hb⟩
             refine ⟨_, rfl, ?_⟩
             have n0_ := qcb hb BK237
             have n1_ := qcb hb BK238
             have n2_ := qcb hb BK242
             have n5_ := qcb hb BK254
             have n6_ := Aside0.mk (below_step (by repeat (first | (with_reducible first | exact HB.out | apply below_alloc | apply pw_below_drewN | apply below_drew1) | exact HB.out)) hb)
             clear BK237; clear BK238
             clear BK242
             clear BK254; clear HB
             have BK237 := n0_
             have BK238 := n1_
             have BK242 := n2_
             have BK254 := n5_
             have HB := n6_
             clear n0_ n1_ n2_ n5_ n6_; (try clear hb)
             (try clear hb2); (try clear hk); (try clear hi)
             refine hK.out _ _ ⟨(blk_cell BK254.out 0).trans rfl, (blk_cell BK254.out 1).trans rfl, (blk_cell BK237.out 0).trans rfl, (blk_cell BK237.out 1).trans rfl, (blk_cell BK238.out 0).trans rfl, (blk_cell BK238.out 1).trans rfl⟩ (fun hHeld => ?_)
             clear hK K
             refine norm_ (a' := ?_) ?_ ?_
             rotate_left; focus (show Act.put _ (some 114) _ = _; simp only [Act.put, sA, sB, sC, i64_w, i32_w]; rfl)
             refine one_ (i := 34) (N := some 116) qq67 rfl rfl (one_of HT_.out (by kernel_rfl)) (by decide) (fun K hK => ?_)
             refine goes_ Try.func38 (by kernel_rfl) rfl #[.agg #[.int .i64 t235, .int .i64 t236]] (by rfl) rfl rfl (by (try simp only [List.map_toArray, List.map_cons, List.map_nil]); first | done | rfl | (simp only [List.length_drop, List.length_take]; rfl)) ?_
             with_reducible refine (impl_Hours.calls t235 t236 t265 _ A108.out).mono ?_
             rintro e w117 ⟨rfl, hb⟩
             refine ⟨_, rfl, ?_⟩
             have n0_ := qcb hb BK237
             have n1_ := qcb hb BK238
             have n2_ := qcb hb BK242
             have n5_ := qcb hb BK254
             have n6_ := Aside0.mk (below_step (by repeat (first | (with_reducible first | exact HB.out | apply below_alloc | apply pw_below_drewN | apply below_drew1) | exact HB.out)) hb)
             clear BK237; clear BK238
             clear BK242
             clear BK254; clear HB
             have BK237 := n0_
             have BK238 := n1_
             have BK242 := n2_
             have BK254 := n5_
             have HB := n6_
             clear n0_ n1_ n2_ n5_ n6_; (try clear hb)
             (try clear hb2); (try clear hk); (try clear hi)
             refine hK.out _ _ ⟨(blk_cell BK254.out 0).trans rfl, (blk_cell BK254.out 1).trans rfl, (blk_cell BK237.out 0).trans rfl, (blk_cell BK237.out 1).trans rfl, (blk_cell BK238.out 0).trans rfl, (blk_cell BK238.out 1).trans rfl⟩ (fun hHeld => ?_)
             clear hK K
             refine norm_ (a' := ?_) ?_ ?_
             rotate_left; focus (show Act.put _ (some 116) _ = _; simp only [Act.put, sA, sB, sC, i64_w, i32_w]; rfl)
             refine pure_ (i := 35) (N := some 117) (v := ?_) (a' := ?_) qq68 rfl rfl (any_of HT_.out (by kernel_rfl)) (fun _ _ _ h => h) (Or.inl ⟨by rfl, ?_⟩) ?_ ?_
             rotate_left; focus (intro w'; go_simp; with_reducible rfl)
             rotate_left; focus (simp only [Act.put, sA, sB, sC, i64_w, i32_w]; rfl)
             refine pure_ (i := 36) (N := some 118) (v := ?_) (a' := ?_) qq69 rfl rfl (any_of HT_.out (by kernel_rfl)) (fun _ _ _ h => h) (Or.inl ⟨by rfl, ?_⟩) ?_ ?_
             rotate_left; focus (intro w'; go_simp; with_reducible rfl)
             rotate_left; focus (simp only [Act.put, sA, sB, sC, i64_w, i32_w]; rfl)
             refine pure_ (i := 37) (N := some 119) (v := ?_) (a' := ?_) qq70 rfl rfl (any_of HT_.out (by kernel_rfl)) (fun _ _ _ h => h) (Or.inl ⟨by rfl, ?_⟩) ?_ ?_
             rotate_left; focus (intro w'; go_simp; with_reducible rfl)
             rotate_left; focus (simp only [Act.put, sA, sB, sC, i64_w, i32_w]; rfl)
             refine pure_ (i := 38) (N := some 120) (v := ?_) (a' := ?_) qq71 rfl rfl (any_of HT_.out (by kernel_rfl)) (fun _ _ _ h => h) (Or.inl ⟨by rfl, ?_⟩) ?_ ?_
             rotate_left; focus (intro w'; go_simp; with_reducible rfl)
             rotate_left; focus (simp only [Act.put, sA, sB, sC, i64_w, i32_w]; rfl)
             refine pure_ (i := 39) (N := some 121) (v := ?_) (a' := ?_) qq72 rfl rfl (any_of HT_.out (by kernel_rfl)) (fun _ _ _ h => h) (Or.inl ⟨by rfl, ?_⟩) ?_ ?_
             rotate_left; focus (intro w'; go_simp; with_reducible rfl)
             rotate_left; focus (simp only [Act.put, sA, sB, sC, i64_w, i32_w]; rfl)
             refine pure_ (i := 40) (N := some 122) (v := ?_) (a' := ?_) qq73 rfl rfl (any_of HT_.out (by kernel_rfl)) (fun _ _ _ h => h) (Or.inl ⟨by rfl, ?_⟩) ?_ ?_
             rotate_left; focus (intro w'; go_simp; with_reducible rfl)
             rotate_left; focus (simp only [Act.put, sA, sB, sC, i64_w, i32_w]; rfl)
             refine pure_ (i := 41) (N := some 123) (v := ?_) (a' := ?_) qq74 rfl rfl (any_of HT_.out (by kernel_rfl)) (fun _ _ _ h => h) (Or.inl ⟨by rfl, ?_⟩) ?_ ?_
             rotate_left; focus (intro w'; go_simp; with_reducible rfl)
             rotate_left; focus (simp only [Act.put, sA, sB, sC, i64_w, i32_w]; rfl)
             refine done_ (done_of HT_.out (by kernel_rfl)) ?_
             try go_wp2
             go_meet
             case rel => exact ⟨_, (t241), (by first | rfl | (simp; done) | (simp [*]; done)), H', ⟨by have := HJ28.out; first | omega | exact Nat.le_refl _⟩, ⟨by (with_reducible repeat (first | refine blk_drewN ?_ _ | refine blk_drew ?_ | refine blk_alloc ?_ _)); exact BK237.out⟩, ⟨by (with_reducible repeat (first | refine blk_drewN ?_ _ | refine blk_drew ?_ | refine blk_alloc ?_ _)); exact BK238.out⟩, ⟨by (with_reducible repeat (first | refine blk_drewN ?_ _ | refine blk_drew ?_ | refine blk_alloc ?_ _)); exact BK242.out⟩, ⟨by repeat (first | (with_reducible first | exact HB.out | apply below_alloc | apply pw_below_drewN | apply below_drew1) | exact HB.out)⟩⟩
            ·rw [if_neg c109] at H
             have c109b0 : decide ((wrap64 (t264 + t265)) < t263) = false := decide_eq_false c109
             clear c109
             (first | rw [c109b0] | (simp only [i64_w, i32_w]; rw [c109b0]) | skip)
             have H' := Aside0.mk H
             clear H
             try go_wp2
             have n0_ := Aside0.mk (blk_drew BK237.out)
             have n1_ := Aside0.mk (blk_drew BK238.out)
             have n2_ := Aside0.mk (blk_drew BK242.out)
             have n5_ := Aside0.mk (blk_drew BK254.out)
             have n6_ := Aside0.mk (below_drew1 HB.out)
             clear BK237; clear BK238
             clear BK242
             clear BK250; clear BK254; clear HB
             have BK237 := n0_
             have BK238 := n1_
             have BK242 := n2_
             have BK254 := n5_
             have HB := n6_
             clear n0_ n1_ n2_ n5_ n6_
             refine start_ (n := 42) (S := fun w' => w'.cell? ⟨gb254, 0, none⟩ = some (.int .i64 t251) ∧ w'.cell? ⟨gb254, 1, none⟩ = some (.int .i64 t252) ∧ w'.cell? ⟨gb237, 0, none⟩ = some (.int .i64 t233) ∧ w'.cell? ⟨gb237, 1, none⟩ = some (.int .i64 t234) ∧ w'.cell? ⟨gb238, 0, none⟩ = some (.int .i64 t235) ∧ w'.cell? ⟨gb238, 1, none⟩ = some (.int .i64 t236)) (ds := []) qq32 (by kernel_rfl) rfl rfl ⟨(blk_cell BK254.out 0).trans rfl, (blk_cell BK254.out 1).trans rfl, (blk_cell BK237.out 0).trans rfl, (blk_cell BK237.out 1).trans rfl, (blk_cell BK238.out 0).trans rfl, (blk_cell BK238.out 1).trans rfl⟩ (fun hHeld => ?_); refine with_tabW laws_FnSpans.tab12 laws_FnSpans.bits12 (fun HT_ HW_ => ?_)
             generalize wc.drew = w118 at BK237 BK238 BK242 BK254 HB hHeld ⊢
             refine pure_ (i := 0) (N := some 82) (v := ?_) (a' := ?_) qq33 rfl rfl (any_of HT_.out (by kernel_rfl)) (fun _ _ _ h => h) (Or.inl ⟨by rfl, ?_⟩) ?_ ?_
             rotate_left; focus (intro w'; go_simp; with_reducible rfl)
             rotate_left; focus (simp only [Act.put, sA, sB, sC, i64_w, i32_w]; rfl)
             refine pure_ (i := 1) (N := some 83) (v := ?_) (a' := ?_) qq34 rfl rfl (any_of HT_.out (by kernel_rfl)) (fun _ _ _ h => h) (Or.inl ⟨by rfl, ?_⟩) ?_ ?_
             rotate_left; focus (intro w'; go_simp; with_reducible rfl)
             rotate_left; focus (simp only [Act.put, sA, sB, sC, i64_w, i32_w]; rfl)
             refine pure_ (i := 3) (N := some 85) (v := ?_) (a' := ?_) qq35 rfl rfl (any_of HT_.out (by kernel_rfl)) (fun _ _ _ h => h) (Or.inl ⟨by rfl, ?_⟩) ?_ ?_
             rotate_left; focus (intro w'; go_simp; with_reducible rfl)
             rotate_left; focus (simp only [Act.put, sA, sB, sC, i64_w, i32_w]; rfl)
             refine take_ (i := 2) (N := some 84) (v := ?_) (a' := ?_) qq36 rfl rfl (take_ofW HT_.out HW_.out (by kernel_rfl)) (fun _ _ _ h => h) (Or.inl ⟨by rfl, ?_⟩) hHeld ?_ ?_
             rotate_left; focus (rintro w' ⟨s0, s1, s2, s3, s4, s5⟩; go_simp; with_reducible rfl)
             rotate_left; focus (simp only [Act.put, sA, sB, sC, i64_w, i32_w]; rfl)
             refine take_ (i := 4) (N := some 86) (v := ?_) (a' := ?_) qq37 rfl rfl (take_ofW HT_.out HW_.out (by kernel_rfl)) (fun _ _ _ h => h) (Or.inl ⟨by rfl, ?_⟩) hHeld ?_ ?_
             rotate_left; focus (rintro w' ⟨s0, s1, s2, s3, s4, s5⟩; go_simp; with_reducible rfl)
             rotate_left; focus (simp only [Act.put, sA, sB, sC, i64_w, i32_w]; rfl)
             refine one_ (i := 5) (N := some 87) qq38 rfl rfl (one_of HT_.out (by kernel_rfl)) (by decide) (fun K hK => ?_)
             refine goes_ Try.func39 (by kernel_rfl) rfl #[.agg #[.int .i64 t251, .int .i64 t252], .int .i64 t233] (by rfl) rfl rfl (by (try simp only [List.map_toArray, List.map_cons, List.map_nil]); first | done | rfl | (simp only [List.length_drop, List.length_take]; rfl)) ?_
             with_reducible refine (impl_Holds.calls t251 t252 t233 true _ A98.out).mono ?_
             rintro e w119 ⟨rfl, hb⟩
             refine ⟨_, rfl, ?_⟩
             have n0_ := qcb hb BK237
             have n1_ := qcb hb BK238
             have n2_ := qcb hb BK242
             have n5_ := qcb hb BK254
             have n6_ := Aside0.mk (below_step (by repeat (first | (with_reducible first | exact HB.out | apply below_alloc | apply pw_below_drewN | apply below_drew1) | exact HB.out)) hb)
             clear BK237; clear BK238
             clear BK242
             clear BK254; clear HB
             have BK237 := n0_
             have BK238 := n1_
             have BK242 := n2_
             have BK254 := n5_
             have HB := n6_
             clear n0_ n1_ n2_ n5_ n6_; (try clear hb)
             (try clear hb2); (try clear hk); (try clear hi)
             refine hK.out _ _ ⟨(blk_cell BK254.out 0).trans rfl, (blk_cell BK254.out 1).trans rfl, (blk_cell BK237.out 0).trans rfl, (blk_cell BK237.out 1).trans rfl, (blk_cell BK238.out 0).trans rfl, (blk_cell BK238.out 1).trans rfl⟩ (fun hHeld => ?_)
             clear hK K
             refine norm_ (a' := ?_) ?_ ?_
             rotate_left; focus (show Act.put _ (some 87) _ = _; simp only [Act.put, sA, sB, sC, i64_w, i32_w]; rfl)
             refine pure_ (i := 6) (N := some 88) (v := ?_) (a' := ?_) qq39 rfl rfl (any_of HT_.out (by kernel_rfl)) (fun _ _ _ h => h) (Or.inl ⟨by rfl, ?_⟩) ?_ ?_
             rotate_left; focus (intro w'; go_simp; with_reducible rfl)
             rotate_left; focus (simp only [Act.put, sA, sB, sC, i64_w, i32_w]; rfl)
             refine pure_ (i := 7) (N := some 89) (v := ?_) (a' := ?_) qq40 rfl rfl (any_of HT_.out (by kernel_rfl)) (fun _ _ _ h => h) (Or.inl ⟨by rfl, ?_⟩) ?_ ?_
             rotate_left; focus (intro w'; go_simp; with_reducible rfl)
             rotate_left; focus (simp only [Act.put, sA, sB, sC, i64_w, i32_w]; rfl)
             refine pure_ (i := 9) (N := some 91) (v := ?_) (a' := ?_) qq41 rfl rfl (any_of HT_.out (by kernel_rfl)) (fun _ _ _ h => h) (Or.inl ⟨by rfl, ?_⟩) ?_ ?_
             rotate_left; focus (intro w'; go_simp; with_reducible rfl)
             rotate_left; focus (simp only [Act.put, sA, sB, sC, i64_w, i32_w]; rfl)
             refine take_ (i := 8) (N := some 90) (v := ?_) (a' := ?_) qq42 rfl rfl (take_ofW HT_.out HW_.out (by kernel_rfl)) (fun _ _ _ h => h) (Or.inl ⟨by rfl, ?_⟩) hHeld ?_ ?_
             rotate_left; focus (rintro w' ⟨s0, s1, s2, s3, s4, s5⟩; go_simp; with_reducible rfl)
             rotate_left; focus (simp only [Act.put, sA, sB, sC, i64_w, i32_w]; rfl)
             refine take_ (i := 10) (N := some 92) (v := ?_) (a' := ?_) qq43 rfl rfl (take_ofW HT_.out HW_.out (by kernel_rfl)) (fun _ _ _ h => h) (Or.inl ⟨by rfl, ?_⟩) hHeld ?_ ?_
             rotate_left; focus (rintro w' ⟨s0, s1, s2, s3, s4, s5⟩; go_simp; with_reducible rfl)
             rotate_left; focus (simp only [Act.put, sA, sB, sC, i64_w, i32_w]; rfl)
             refine one_ (i := 11) (N := some 93) qq44 rfl rfl (one_of HT_.out (by kernel_rfl)) (by decide) (fun K hK => ?_)
             refine goes_ Try.func39 (by kernel_rfl) rfl #[.agg #[.int .i64 t251, .int .i64 t252], .int .i64 t234] (by rfl) rfl rfl (by (try simp only [List.map_toArray, List.map_cons, List.map_nil]); first | done | rfl | (simp only [List.length_drop, List.length_take]; rfl)) ?_
             with_reducible refine (impl_Holds.calls t251 t252 t234 true _ A100.out).mono ?_
             rintro e w120 ⟨rfl, hb⟩
             refine ⟨_, rfl, ?_⟩
             have n0_ := qcb hb BK237
             have n1_ := qcb hb BK238
             have n2_ := qcb hb BK242
             have n5_ := qcb hb BK254
             have n6_ := Aside0.mk (below_step (by repeat (first | (with_reducible first | exact HB.out | apply below_alloc | apply pw_below_drewN | apply below_drew1) | exact HB.out)) hb)
             clear BK237; clear BK238
             clear BK242
             clear BK254; clear HB
             have BK237 := n0_
             have BK238 := n1_
             have BK242 := n2_
             have BK254 := n5_
             have HB := n6_
             clear n0_ n1_ n2_ n5_ n6_; (try clear hb)
             (try clear hb2); (try clear hk); (try clear hi)
             refine hK.out _ _ ⟨(blk_cell BK254.out 0).trans rfl, (blk_cell BK254.out 1).trans rfl, (blk_cell BK237.out 0).trans rfl, (blk_cell BK237.out 1).trans rfl, (blk_cell BK238.out 0).trans rfl, (blk_cell BK238.out 1).trans rfl⟩ (fun hHeld => ?_)
             clear hK K
             refine norm_ (a' := ?_) ?_ ?_
             rotate_left; focus (show Act.put _ (some 93) _ = _; simp only [Act.put, sA, sB, sC, i64_w, i32_w]; rfl)
             refine pure_ (i := 12) (N := some 94) (v := ?_) (a' := ?_) qq45 rfl rfl (any_of HT_.out (by kernel_rfl)) (fun _ _ _ h => h) (Or.inl ⟨by rfl, ?_⟩) ?_ ?_
             rotate_left; focus (intro w'; go_simp; with_reducible rfl)
             rotate_left; focus (simp only [Act.put, sA, sB, sC, i64_w, i32_w]; rfl)
             refine pure_ (i := 13) (N := some 95) (v := ?_) (a' := ?_) qq46 rfl rfl (any_of HT_.out (by kernel_rfl)) (fun _ _ _ h => h) (Or.inl ⟨by rfl, ?_⟩) ?_ ?_
             rotate_left; focus (intro w'; go_simp; with_reducible rfl)
             rotate_left; focus (simp only [Act.put, sA, sB, sC, i64_w, i32_w]; rfl)
             refine pure_ (i := 14) (N := some 96) (v := ?_) (a' := ?_) qq47 rfl rfl (any_of HT_.out (by kernel_rfl)) (fun _ _ _ h => h) (Or.inl ⟨by rfl, ?_⟩) ?_ ?_
             rotate_left; focus (intro w'; go_simp; with_reducible rfl)
             rotate_left; focus (simp only [Act.put, sA, sB, sC, i64_w, i32_w]; rfl)
             refine pure_ (i := 16) (N := some 98) (v := ?_) (a' := ?_) qq48 rfl rfl (any_of HT_.out (by kernel_rfl)) (fun _ _ _ h => h) (Or.inl ⟨by rfl, ?_⟩) ?_ ?_
             rotate_left; focus (intro w'; go_simp; with_reducible rfl)
             rotate_left; focus (simp only [Act.put, sA, sB, sC, i64_w, i32_w]; rfl)
             refine take_ (i := 15) (N := some 97) (v := ?_) (a' := ?_) qq49 rfl rfl (take_ofW HT_.out HW_.out (by kernel_rfl)) (fun _ _ _ h => h) (Or.inl ⟨by rfl, ?_⟩) hHeld ?_ ?_
             rotate_left; focus (rintro w' ⟨s0, s1, s2, s3, s4, s5⟩; go_simp; with_reducible rfl)
             rotate_left; focus (simp only [Act.put, sA, sB, sC, i64_w, i32_w]; rfl)
             refine take_ (i := 17) (N := some 99) (v := ?_) (a' := ?_) qq50 rfl rfl (take_ofW HT_.out HW_.out (by kernel_rfl)) (fun _ _ _ h => h) (Or.inl ⟨by rfl, ?_⟩) hHeld ?_ ?_
             rotate_left; focus (rintro w' ⟨s0, s1, s2, s3, s4, s5⟩; go_simp; with_reducible rfl)
             rotate_left; focus (simp only [Act.put, sA, sB, sC, i64_w, i32_w]; rfl)
             refine one_ (i := 18) (N := some 100) qq51 rfl rfl (one_of HT_.out (by kernel_rfl)) (by decide) (fun K hK => ?_)
             refine goes_ Try.func39 (by kernel_rfl) rfl #[.agg #[.int .i64 t251, .int .i64 t252], .int .i64 t235] (by rfl) rfl rfl (by (try simp only [List.map_toArray, List.map_cons, List.map_nil]); first | done | rfl | (simp only [List.length_drop, List.length_take]; rfl)) ?_
             with_reducible refine (impl_Holds.calls t251 t252 t235 true _ A102.out).mono ?_
             rintro e w121 ⟨rfl, hb⟩
             refine ⟨_, rfl, ?_⟩
             have n0_ := qcb hb BK237
             have n1_ := qcb hb BK238
             have n2_ := qcb hb BK242
             have n5_ := qcb hb BK254
             have n6_ := Aside0.mk (below_step (by repeat (first | (with_reducible first | exact HB.out | apply below_alloc | apply pw_below_drewN | apply below_drew1) | exact HB.out)) hb)
             clear BK237; clear BK238
             clear BK242
             clear BK254; clear HB
             have BK237 := n0_
             have BK238 := n1_
             have BK242 := n2_
             have BK254 := n5_
             have HB := n6_
             clear n0_ n1_ n2_ n5_ n6_; (try clear hb)
             (try clear hb2); (try clear hk); (try clear hi)
             refine hK.out _ _ ⟨(blk_cell BK254.out 0).trans rfl, (blk_cell BK254.out 1).trans rfl, (blk_cell BK237.out 0).trans rfl, (blk_cell BK237.out 1).trans rfl, (blk_cell BK238.out 0).trans rfl, (blk_cell BK238.out 1).trans rfl⟩ (fun hHeld => ?_)
             clear hK K
             refine norm_ (a' := ?_) ?_ ?_
             rotate_left; focus (show Act.put _ (some 100) _ = _; simp only [Act.put, sA, sB, sC, i64_w, i32_w]; rfl)
             refine pure_ (i := 19) (N := some 101) (v := ?_) (a' := ?_) qq52 rfl rfl (any_of HT_.out (by kernel_rfl)) (fun _ _ _ h => h) (Or.inl ⟨by rfl, ?_⟩) ?_ ?_
             rotate_left; focus (intro w'; go_simp; with_reducible rfl)
             rotate_left; focus (simp only [Act.put, sA, sB, sC, i64_w, i32_w]; rfl)
             refine pure_ (i := 20) (N := some 102) (v := ?_) (a' := ?_) qq53 rfl rfl (any_of HT_.out (by kernel_rfl)) (fun _ _ _ h => h) (Or.inl ⟨by rfl, ?_⟩) ?_ ?_
             rotate_left; focus (intro w'; go_simp; with_reducible rfl)
             rotate_left; focus (simp only [Act.put, sA, sB, sC, i64_w, i32_w]; rfl)
             refine pure_ (i := 21) (N := some 103) (v := ?_) (a' := ?_) qq54 rfl rfl (any_of HT_.out (by kernel_rfl)) (fun _ _ _ h => h) (Or.inl ⟨by rfl, ?_⟩) ?_ ?_
             rotate_left; focus (intro w'; go_simp; with_reducible rfl)
             rotate_left; focus (simp only [Act.put, sA, sB, sC, i64_w, i32_w]; rfl)
             refine pure_ (i := 23) (N := some 105) (v := ?_) (a' := ?_) qq55 rfl rfl (any_of HT_.out (by kernel_rfl)) (fun _ _ _ h => h) (Or.inl ⟨by rfl, ?_⟩) ?_ ?_
             rotate_left; focus (intro w'; go_simp; with_reducible rfl)
             rotate_left; focus (simp only [Act.put, sA, sB, sC, i64_w, i32_w]; rfl)
             refine take_ (i := 22) (N := some 104) (v := ?_) (a' := ?_) qq56 rfl rfl (take_ofW HT_.out HW_.out (by kernel_rfl)) (fun _ _ _ h => h) (Or.inl ⟨by rfl, ?_⟩) hHeld ?_ ?_
             rotate_left; focus (rintro w' ⟨s0, s1, s2, s3, s4, s5⟩; go_simp; with_reducible rfl)
             rotate_left; focus (simp only [Act.put, sA, sB, sC, i64_w, i32_w]; rfl)
             refine take_ (i := 24) (N := some 106) (v := ?_) (a' := ?_) qq57 rfl rfl (take_ofW HT_.out HW_.out (by kernel_rfl)) (fun _ _ _ h => h) (Or.inl ⟨by rfl, ?_⟩) hHeld ?_ ?_
             rotate_left; focus (rintro w' ⟨s0, s1, s2, s3, s4, s5⟩; go_simp; with_reducible rfl)
             rotate_left; focus (simp only [Act.put, sA, sB, sC, i64_w, i32_w]; rfl)
             refine one_ (i := 25) (N := some 107) qq58 rfl rfl (one_of HT_.out (by kernel_rfl)) (by decide) (fun K hK => ?_)
             refine goes_ Try.func39 (by kernel_rfl) rfl #[.agg #[.int .i64 t251, .int .i64 t252], .int .i64 t236] (by rfl) rfl rfl (by (try simp only [List.map_toArray, List.map_cons, List.map_nil]); first | done | rfl | (simp only [List.length_drop, List.length_take]; rfl)) ?_
             with_reducible refine (impl_Holds.calls t251 t252 t236 true _ A104.out).mono ?_
             rintro e w122 ⟨rfl, hb⟩
             refine ⟨_, rfl, ?_⟩
             have n0_ := qcb hb BK237
             have n1_ := qcb hb BK238
             have n2_ := qcb hb BK242
             have n5_ := qcb hb BK254
             have n6_ := Aside0.mk (below_step (by repeat (first | (with_reducible first | exact HB.out | apply below_alloc | apply pw_below_drewN | apply below_drew1) | exact HB.out)) hb)
             clear BK237; clear BK238
             clear BK242
             clear BK254; clear HB
             have BK237 := n0_
             have BK238 := n1_
             have BK242 := n2_
             have BK254 := n5_
             have HB := n6_
             clear n0_ n1_ n2_ n5_ n6_; (try clear hb)
             (try clear hb2); (try clear hk); (try clear hi)
             refine hK.out _ _ ⟨(blk_cell BK254.out 0).trans rfl, (blk_cell BK254.out 1).trans rfl, (blk_cell BK237.out 0).trans rfl, (blk_cell BK237.out 1).trans rfl, (blk_cell BK238.out 0).trans rfl, (blk_cell BK238.out 1).trans rfl⟩ (fun hHeld => ?_)
             clear hK K
             refine norm_ (a' := ?_) ?_ ?_
             rotate_left; focus (show Act.put _ (some 107) _ = _; simp only [Act.put, sA, sB, sC, i64_w, i32_w]; rfl)
             refine pure_ (i := 26) (N := some 108) (v := ?_) (a' := ?_) qq59 rfl rfl (any_of HT_.out (by kernel_rfl)) (fun _ _ _ h => h) (Or.inl ⟨by rfl, ?_⟩) ?_ ?_
             rotate_left; focus (intro w'; go_simp; with_reducible rfl)
             rotate_left; focus (simp only [Act.put, sA, sB, sC, i64_w, i32_w]; rfl)
             refine pure_ (i := 27) (N := some 109) (v := ?_) (a' := ?_) qq60 rfl rfl (any_of HT_.out (by kernel_rfl)) (fun _ _ _ h => h) (Or.inl ⟨by rfl, ?_⟩) ?_ ?_
             rotate_left; focus (intro w'; go_simp; with_reducible rfl)
             rotate_left; focus (simp only [Act.put, sA, sB, sC, i64_w, i32_w]; rfl)
             refine pure_ (i := 28) (N := some 110) (v := ?_) (a' := ?_) qq61 rfl rfl (any_of HT_.out (by kernel_rfl)) (fun _ _ _ h => h) (Or.inl ⟨by rfl, ?_⟩) ?_ ?_
             rotate_left; focus (intro w'; go_simp; with_reducible rfl)
             rotate_left; focus (simp only [Act.put, sA, sB, sC, i64_w, i32_w]; rfl)
             refine take_ (i := 29) (N := some 111) (v := ?_) (a' := ?_) qq62 rfl rfl (take_ofW HT_.out HW_.out (by kernel_rfl)) (fun _ _ _ h => h) (Or.inl ⟨by rfl, ?_⟩) hHeld ?_ ?_
             rotate_left; focus (rintro w' ⟨s0, s1, s2, s3, s4, s5⟩; go_simp; with_reducible rfl)
             rotate_left; focus (simp only [Act.put, sA, sB, sC, i64_w, i32_w]; rfl)
             refine take_ (i := 31) (N := some 113) (v := ?_) (a' := ?_) qq63 rfl rfl (take_ofW HT_.out HW_.out (by kernel_rfl)) (fun _ _ _ h => h) (Or.inl ⟨by rfl, ?_⟩) hHeld ?_ ?_
             rotate_left; focus (rintro w' ⟨s0, s1, s2, s3, s4, s5⟩; go_simp; with_reducible rfl)
             rotate_left; focus (simp only [Act.put, sA, sB, sC, i64_w, i32_w]; rfl)
             refine take_ (i := 33) (N := some 115) (v := ?_) (a' := ?_) qq64 rfl rfl (take_ofW HT_.out HW_.out (by kernel_rfl)) (fun _ _ _ h => h) (Or.inl ⟨by rfl, ?_⟩) hHeld ?_ ?_
             rotate_left; focus (rintro w' ⟨s0, s1, s2, s3, s4, s5⟩; go_simp; with_reducible rfl)
             rotate_left; focus (simp only [Act.put, sA, sB, sC, i64_w, i32_w]; rfl)
             refine one_ (i := 30) (N := some 112) qq65 rfl rfl (one_of HT_.out (by kernel_rfl)) (by decide) (fun K hK => ?_)
             refine goes_ Try.func38 (by kernel_rfl) rfl #[.agg #[.int .i64 t251, .int .i64 t252]] (by rfl) rfl rfl (by (try simp only [List.map_toArray, List.map_cons, List.map_nil]); first | done | rfl | (simp only [List.length_drop, List.length_take]; rfl)) ?_
             with_reducible refine (impl_Hours.calls t251 t252 t263 _ A106.out).mono ?_
             rintro e w123 ⟨rfl, hb⟩
             refine ⟨_, rfl, ?_⟩
             have n0_ := qcb hb BK237
             have n1_ := qcb hb BK238
             have n2_ := qcb hb BK242
             have n5_ := qcb hb BK254
             have n6_ := Aside0.mk (below_step (by repeat (first | (with_reducible first | exact HB.out | apply below_alloc | apply pw_below_drewN | apply below_drew1) | exact HB.out)) hb)
             clear BK237; clear BK238
             clear BK242
             clear BK254; clear HB
             have BK237 := n0_
             have BK238 := n1_
             have BK242 := n2_
             have BK254 := n5_
             have HB := n6_
             clear n0_ n1_ n2_ n5_ n6_; (try clear hb)
             (try clear hb2); (try clear hk); (try clear hi)
             refine hK.out _ _ ⟨(blk_cell BK254.out 0).trans rfl, (blk_cell BK254.out 1).trans rfl, (blk_cell BK237.out 0).trans rfl, (blk_cell BK237.out 1).trans rfl, (blk_cell BK238.out 0).trans rfl, (blk_cell BK238.out 1).trans rfl⟩ (fun hHeld => ?_)
             clear hK K
             refine norm_ (a' := ?_) ?_ ?_
             rotate_left; focus (show Act.put _ (some 112) _ = _; simp only [Act.put, sA, sB, sC, i64_w, i32_w]; rfl)
             refine one_ (i := 32) (N := some 114) qq66 rfl rfl (one_of HT_.out (by kernel_rfl)) (by decide) (fun K hK => ?_)
             refine goes_ Try.func38 (by kernel_rfl) rfl #[.agg #[.int .i64 t233, .int .i64 t234]] (by rfl) rfl rfl (by (try simp only [List.map_toArray, List.map_cons, List.map_nil]); first | done | rfl | (simp only [List.length_drop, List.length_take]; rfl)) ?_
             with_reducible refine (impl_Hours.calls t233 t234 t264 _ A107.out).mono ?_
             rintro e w124 ⟨rfl, hb⟩
             refine ⟨_, rfl, ?_⟩
             have n0_ := qcb hb BK237
             have n1_ := qcb hb BK238
             have n2_ := qcb hb BK242
             have n5_ := qcb hb BK254
             have n6_ := Aside0.mk (below_step (by repeat (first | (with_reducible first | exact HB.out | apply below_alloc | apply pw_below_drewN | apply below_drew1) | exact HB.out)) hb)
             clear BK237; clear BK238
             clear BK242
             clear BK254; clear HB
             have BK237 := n0_
             have BK238 := n1_
             have BK242 := n2_
             have BK254 := n5_
             have HB := n6_
             clear n0_ n1_ n2_ n5_ n6_; (try clear hb)
             (try clear hb2); (try clear hk); (try clear hi)
             refine hK.out _ _ ⟨(blk_cell BK254.out 0).trans rfl, (blk_cell BK254.out 1).trans rfl, (blk_cell BK237.out 0).trans rfl, (blk_cell BK237.out 1).trans rfl, (blk_cell BK238.out 0).trans rfl, (blk_cell BK238.out 1).trans rfl⟩ (fun hHeld => ?_)
             clear hK K
             refine norm_ (a' := ?_) ?_ ?_
             rotate_left; focus (show Act.put _ (some 114) _ = _; simp only [Act.put, sA, sB, sC, i64_w, i32_w]; rfl)
             refine one_ (i := 34) (N := some 116) qq67 rfl rfl (one_of HT_.out (by kernel_rfl)) (by decide) (fun K hK => ?_)
             refine goes_ Try.func38 (by kernel_rfl) rfl #[.agg #[.int .i64 t235, .int .i64 t236]] (by rfl) rfl rfl (by (try simp only [List.map_toArray, List.map_cons, List.map_nil]); first | done | rfl | (simp only [List.length_drop, List.length_take]; rfl)) ?_
             with_reducible refine (impl_Hours.calls t235 t236 t265 _ A108.out).mono ?_
             rintro e w125 ⟨rfl, hb⟩
             refine ⟨_, rfl, ?_⟩
             have n0_ := qcb hb BK237
             have n1_ := qcb hb BK238
             have n2_ := qcb hb BK242
             have n5_ := qcb hb BK254
             have n6_ := Aside0.mk (below_step (by repeat (first | (with_reducible first | exact HB.out | apply below_alloc | apply pw_below_drewN | apply below_drew1) | exact HB.out)) hb)
             clear BK237; clear BK238
             clear BK242
             clear BK254; clear HB
             have BK237 := n0_
             have BK238 := n1_
             have BK242 := n2_
             have BK254 := n5_
             have HB := n6_
             clear n0_ n1_ n2_ n5_ n6_; (try clear hb)
             (try clear hb2); (try clear hk); (try clear hi)
             refine hK.out _ _ ⟨(blk_cell BK254.out 0).trans rfl, (blk_cell BK254.out 1).trans rfl, (blk_cell BK237.out 0).trans rfl, (blk_cell BK237.out 1).trans rfl, (blk_cell BK238.out 0).trans rfl, (blk_cell BK238.out 1).trans rfl⟩ (fun hHeld => ?_)
             clear hK K
             refine norm_ (a' := ?_) ?_ ?_
             rotate_left; focus (show Act.put _ (some 116) _ = _; simp only [Act.put, sA, sB, sC, i64_w, i32_w]; rfl)
             refine pure_ (i := 35) (N := some 117) (v := ?_) (a' := ?_) qq68 rfl rfl (any_of HT_.out (by kernel_rfl)) (fun _ _ _ h => h) (Or.inl ⟨by rfl, ?_⟩) ?_ ?_
             rotate_left; focus (intro w'; go_simp; with_reducible rfl)
             rotate_left; focus (simp only [Act.put, sA, sB, sC, i64_w, i32_w]; rfl)
             refine pure_ (i := 36) (N := some 118) (v := ?_) (a' := ?_) qq69 rfl rfl (any_of HT_.out (by kernel_rfl)) (fun _ _ _ h => h) (Or.inl ⟨by rfl, ?_⟩) ?_ ?_
             rotate_left; focus (intro w'; go_simp; with_reducible rfl)
             rotate_left; focus (simp only [Act.put, sA, sB, sC, i64_w, i32_w]; rfl)
             refine pure_ (i := 37) (N := some 119) (v := ?_) (a' := ?_) qq70 rfl rfl (any_of HT_.out (by kernel_rfl)) (fun _ _ _ h => h) (Or.inl ⟨by rfl, ?_⟩) ?_ ?_
             rotate_left; focus (intro w'; go_simp; with_reducible rfl)
             rotate_left; focus (simp only [Act.put, sA, sB, sC, i64_w, i32_w]; rfl)
             refine pure_ (i := 38) (N := some 120) (v := undef) (a' := ?_) qq71 rfl rfl (any_of HT_.out (by kernel_rfl)) (fun _ _ _ h => h) (Or.inr ⟨by rfl, rfl⟩) ?_ ?_
             rotate_left; focus (simp only [Act.put, sA, sB, sC, i64_w, i32_w]; rfl)
             refine pure_ (i := 39) (N := some 121) (v := ?_) (a' := ?_) qq72 rfl rfl (any_of HT_.out (by kernel_rfl)) (fun _ _ _ h => h) (Or.inl ⟨by rfl, ?_⟩) ?_ ?_
             rotate_left; focus (intro w'; go_simp; with_reducible rfl)
             rotate_left; focus (simp only [Act.put, sA, sB, sC, i64_w, i32_w]; rfl)
             refine pure_ (i := 40) (N := some 122) (v := ?_) (a' := ?_) qq73 rfl rfl (any_of HT_.out (by kernel_rfl)) (fun _ _ _ h => h) (Or.inl ⟨by rfl, ?_⟩) ?_ ?_
             rotate_left; focus (intro w'; go_simp; with_reducible rfl)
             rotate_left; focus (simp only [Act.put, sA, sB, sC, i64_w, i32_w]; rfl)
             refine pure_ (i := 41) (N := some 123) (v := ?_) (a' := ?_) qq74 rfl rfl (any_of HT_.out (by kernel_rfl)) (fun _ _ _ h => h) (Or.inl ⟨by rfl, ?_⟩) ?_ ?_
             rotate_left; focus (intro w'; go_simp; with_reducible rfl)
             rotate_left; focus (simp only [Act.put, sA, sB, sC, i64_w, i32_w]; rfl)
             refine done_ (done_of HT_.out (by kernel_rfl)) ?_
             try go_wp2
             go_meet
             case rel => exact ⟨_, (false), (by first | rfl | (simp; done) | (simp [*]; done)), H', ⟨by have := HJ28.out; first | omega | exact Nat.le_refl _⟩, ⟨by (with_reducible repeat (first | refine blk_drewN ?_ _ | refine blk_drew ?_ | refine blk_alloc ?_ _)); exact BK237.out⟩, ⟨by (with_reducible repeat (first | refine blk_drewN ?_ _ | refine blk_drew ?_ | refine blk_alloc ?_ _)); exact BK238.out⟩, ⟨by (with_reducible repeat (first | refine blk_drewN ?_ _ | refine blk_drew ?_ | refine blk_alloc ?_ _)); exact BK242.out⟩, ⟨by repeat (first | (with_reducible first | exact HB.out | apply below_alloc | apply pw_below_drewN | apply below_drew1) | exact HB.out)⟩⟩
           ·replace c105 := Bool.eq_false_iff.mpr c105
            subst c105
            have H1 : (laws_FnSpans.j1 kj28 l0 t241 true t233 t234 t235 t236 t239 t240) = some true := by rw [if_neg (show ¬ (false = true) by decide)] at H; exact H
            clear H
            have H := H1
            clear H1
            exact absurd H (laws_FnSpans.j1_no _ _ _ _ _ _ _ _ _)
          ·replace c103 := Bool.eq_false_iff.mpr c103
           subst c103
           have H1 : (laws_FnSpans.j1 kj28 l0 t241 true t233 t234 t235 t236 t239 t240) = some true := by rw [if_neg (show ¬ (false = true) by decide)] at H; exact H
           clear H
           have H := H1
           clear H1
           exact absurd H (laws_FnSpans.j1_no _ _ _ _ _ _ _ _ _)
         ·replace c101 := Bool.eq_false_iff.mpr c101
          subst c101
          have H1 : (laws_FnSpans.j1 kj28 l0 t241 true t233 t234 t235 t236 t239 t240) = some true := by rw [if_neg (show ¬ (false = true) by decide)] at H; exact H
          clear H
          have H := H1
          clear H1
          exact absurd H (laws_FnSpans.j1_no _ _ _ _ _ _ _ _ _)
        ·replace c99 := Bool.eq_false_iff.mpr c99
         subst c99
         have H1 : (laws_FnSpans.j1 kj28 l0 t241 true t233 t234 t235 t236 t239 t240) = some true := by rw [if_neg (show ¬ (false = true) by decide)] at H; exact H
         clear H
         have H := H1
         clear H1
         exact absurd H (laws_FnSpans.j1_no _ _ _ _ _ _ _ _ _)
       ·replace c97 := Bool.eq_false_iff.mpr c97
        subst c97
        have H1 : (laws_FnSpans.j1 kj28 l0 t241 false t233 t234 t235 t236 t239 t240) = some true := by rw [if_neg (show ¬ (false = true) by decide)] at H; exact H
        clear H
        have H := H1
        clear H1
        have H' := Aside0.mk H
        clear H
        try go_wp2
        have n0_ := Aside0.mk (blk_drew BK237.out)
        have n1_ := Aside0.mk (blk_drew BK238.out)
        have n2_ := Aside0.mk (blk_drew BK242.out)
        have n6_ := Aside0.mk (below_drew1 HB.out)
        clear BK237; clear BK238
        clear BK242
        clear BK250; clear BK254; clear HB
        have BK237 := n0_
        have BK238 := n1_
        have BK242 := n2_
        have HB := n6_
        clear n0_ n1_ n2_ n6_
        refine start_ (n := 42) (S := fun w' => True) (ds := []) qq32 (by kernel_rfl) rfl rfl trivial (fun hHeld => ?_); refine with_tabW laws_FnSpans.tab12 laws_FnSpans.bits12 (fun HT_ HW_ => ?_)
        generalize wc.drew = w140 at BK237 BK238 BK242 HB hHeld ⊢
        refine pure_ (i := 0) (N := some 82) (v := ?_) (a' := ?_) qq33 rfl rfl (any_of HT_.out (by kernel_rfl)) (fun _ _ _ h => h) (Or.inl ⟨by rfl, ?_⟩) ?_ ?_
        rotate_left; focus (intro w'; go_simp; with_reducible rfl)
        rotate_left; focus (simp only [Act.put, sA, sB, sC, i64_w, i32_w]; rfl)
        refine pure_ (i := 1) (N := some 83) (v := ?_) (a' := ?_) qq34 rfl rfl (any_of HT_.out (by kernel_rfl)) (fun _ _ _ h => h) (Or.inl ⟨by rfl, ?_⟩) ?_ ?_
        rotate_left; focus (intro w'; go_simp; with_reducible rfl)
        rotate_left; focus (simp only [Act.put, sA, sB, sC, i64_w, i32_w]; rfl)
        refine pure_ (i := 2) (N := some 84) (v := undef) (a' := ?_) qq75 rfl rfl (any_of HT_.out (by kernel_rfl)) (fun _ _ _ h => h) (Or.inr ⟨by rfl, rfl⟩) ?_ ?_
        rotate_left; focus (simp only [Act.put, sA, sB, sC, i64_w, i32_w]; rfl)
        refine pure_ (i := 3) (N := some 85) (v := undef) (a' := ?_) qq36 rfl rfl (any_of HT_.out (by kernel_rfl)) (fun _ _ _ h => h) (Or.inr ⟨by rfl, rfl⟩) ?_ ?_
        rotate_left; focus (simp only [Act.put, sA, sB, sC, i64_w, i32_w]; rfl)
        refine pure_ (i := 4) (N := some 86) (v := undef) (a' := ?_) qq37 rfl rfl (any_of HT_.out (by kernel_rfl)) (fun _ _ _ h => h) (Or.inr ⟨by rfl, rfl⟩) ?_ ?_
        rotate_left; focus (simp only [Act.put, sA, sB, sC, i64_w, i32_w]; rfl)
        refine pure_ (i := 5) (N := some 87) (v := undef) (a' := ?_) qq38 rfl rfl (any_of HT_.out (by kernel_rfl)) (fun _ _ _ h => h) (Or.inr ⟨by rfl, rfl⟩) ?_ ?_
        rotate_left; focus (simp only [Act.put, sA, sB, sC, i64_w, i32_w]; rfl)
        refine pure_ (i := 6) (N := some 88) (v := undef) (a' := ?_) qq39 rfl rfl (any_of HT_.out (by kernel_rfl)) (fun _ _ _ h => h) (Or.inr ⟨by rfl, rfl⟩) ?_ ?_
        rotate_left; focus (simp only [Act.put, sA, sB, sC, i64_w, i32_w]; rfl)
        refine pure_ (i := 7) (N := some 89) (v := undef) (a' := ?_) qq40 rfl rfl (any_of HT_.out (by kernel_rfl)) (fun _ _ _ h => h) (Or.inr ⟨by rfl, rfl⟩) ?_ ?_
        rotate_left; focus (simp only [Act.put, sA, sB, sC, i64_w, i32_w]; rfl)
        refine pure_ (i := 8) (N := some 90) (v := undef) (a' := ?_) qq76 rfl rfl (any_of HT_.out (by kernel_rfl)) (fun _ _ _ h => h) (Or.inr ⟨by rfl, rfl⟩) ?_ ?_
        rotate_left; focus (simp only [Act.put, sA, sB, sC, i64_w, i32_w]; rfl)
        refine pure_ (i := 9) (N := some 91) (v := undef) (a' := ?_) qq42 rfl rfl (any_of HT_.out (by kernel_rfl)) (fun _ _ _ h => h) (Or.inr ⟨by rfl, rfl⟩) ?_ ?_
        rotate_left; focus (simp only [Act.put, sA, sB, sC, i64_w, i32_w]; rfl)
        refine pure_ (i := 10) (N := some 92) (v := undef) (a' := ?_) qq43 rfl rfl (any_of HT_.out (by kernel_rfl)) (fun _ _ _ h => h) (Or.inr ⟨by rfl, rfl⟩) ?_ ?_
        rotate_left; focus (simp only [Act.put, sA, sB, sC, i64_w, i32_w]; rfl)
        refine pure_ (i := 11) (N := some 93) (v := undef) (a' := ?_) qq44 rfl rfl (any_of HT_.out (by kernel_rfl)) (fun _ _ _ h => h) (Or.inr ⟨by rfl, rfl⟩) ?_ ?_
        rotate_left; focus (simp only [Act.put, sA, sB, sC, i64_w, i32_w]; rfl)
        refine pure_ (i := 12) (N := some 94) (v := undef) (a' := ?_) qq45 rfl rfl (any_of HT_.out (by kernel_rfl)) (fun _ _ _ h => h) (Or.inr ⟨by rfl, rfl⟩) ?_ ?_
        rotate_left; focus (simp only [Act.put, sA, sB, sC, i64_w, i32_w]; rfl)
        refine pure_ (i := 13) (N := some 95) (v := undef) (a' := ?_) qq46 rfl rfl (any_of HT_.out (by kernel_rfl)) (fun _ _ _ h => h) (Or.inr ⟨by rfl, rfl⟩) ?_ ?_
        rotate_left; focus (simp only [Act.put, sA, sB, sC, i64_w, i32_w]; rfl)
        refine pure_ (i := 14) (N := some 96) (v := undef) (a' := ?_) qq47 rfl rfl (any_of HT_.out (by kernel_rfl)) (fun _ _ _ h => h) (Or.inr ⟨by rfl, rfl⟩) ?_ ?_
        rotate_left; focus (simp only [Act.put, sA, sB, sC, i64_w, i32_w]; rfl)
        refine pure_ (i := 15) (N := some 97) (v := undef) (a' := ?_) qq77 rfl rfl (any_of HT_.out (by kernel_rfl)) (fun _ _ _ h => h) (Or.inr ⟨by rfl, rfl⟩) ?_ ?_
        rotate_left; focus (simp only [Act.put, sA, sB, sC, i64_w, i32_w]; rfl)
        refine pure_ (i := 16) (N := some 98) (v := undef) (a' := ?_) qq49 rfl rfl (any_of HT_.out (by kernel_rfl)) (fun _ _ _ h => h) (Or.inr ⟨by rfl, rfl⟩) ?_ ?_
        rotate_left; focus (simp only [Act.put, sA, sB, sC, i64_w, i32_w]; rfl)
        refine pure_ (i := 17) (N := some 99) (v := undef) (a' := ?_) qq50 rfl rfl (any_of HT_.out (by kernel_rfl)) (fun _ _ _ h => h) (Or.inr ⟨by rfl, rfl⟩) ?_ ?_
        rotate_left; focus (simp only [Act.put, sA, sB, sC, i64_w, i32_w]; rfl)
        refine pure_ (i := 18) (N := some 100) (v := undef) (a' := ?_) qq51 rfl rfl (any_of HT_.out (by kernel_rfl)) (fun _ _ _ h => h) (Or.inr ⟨by rfl, rfl⟩) ?_ ?_
        rotate_left; focus (simp only [Act.put, sA, sB, sC, i64_w, i32_w]; rfl)
        refine pure_ (i := 19) (N := some 101) (v := undef) (a' := ?_) qq52 rfl rfl (any_of HT_.out (by kernel_rfl)) (fun _ _ _ h => h) (Or.inr ⟨by rfl, rfl⟩) ?_ ?_
        rotate_left; focus (simp only [Act.put, sA, sB, sC, i64_w, i32_w]; rfl)
        refine pure_ (i := 20) (N := some 102) (v := undef) (a' := ?_) qq53 rfl rfl (any_of HT_.out (by kernel_rfl)) (fun _ _ _ h => h) (Or.inr ⟨by rfl, rfl⟩) ?_ ?_
        rotate_left; focus (simp only [Act.put, sA, sB, sC, i64_w, i32_w]; rfl)
        refine pure_ (i := 21) (N := some 103) (v := undef) (a' := ?_) qq54 rfl rfl (any_of HT_.out (by kernel_rfl)) (fun _ _ _ h => h) (Or.inr ⟨by rfl, rfl⟩) ?_ ?_
        rotate_left; focus (simp only [Act.put, sA, sB, sC, i64_w, i32_w]; rfl)
        refine pure_ (i := 22) (N := some 104) (v := undef) (a' := ?_) qq78 rfl rfl (any_of HT_.out (by kernel_rfl)) (fun _ _ _ h => h) (Or.inr ⟨by rfl, rfl⟩) ?_ ?_
        rotate_left; focus (simp only [Act.put, sA, sB, sC, i64_w, i32_w]; rfl)
        refine pure_ (i := 23) (N := some 105) (v := undef) (a' := ?_) qq56 rfl rfl (any_of HT_.out (by kernel_rfl)) (fun _ _ _ h => h) (Or.inr ⟨by rfl, rfl⟩) ?_ ?_
        rotate_left; focus (simp only [Act.put, sA, sB, sC, i64_w, i32_w]; rfl)
        refine pure_ (i := 24) (N := some 106) (v := undef) (a' := ?_) qq57 rfl rfl (any_of HT_.out (by kernel_rfl)) (fun _ _ _ h => h) (Or.inr ⟨by rfl, rfl⟩) ?_ ?_
        rotate_left; focus (simp only [Act.put, sA, sB, sC, i64_w, i32_w]; rfl)
        refine pure_ (i := 25) (N := some 107) (v := undef) (a' := ?_) qq58 rfl rfl (any_of HT_.out (by kernel_rfl)) (fun _ _ _ h => h) (Or.inr ⟨by rfl, rfl⟩) ?_ ?_
        rotate_left; focus (simp only [Act.put, sA, sB, sC, i64_w, i32_w]; rfl)
        refine pure_ (i := 26) (N := some 108) (v := undef) (a' := ?_) qq59 rfl rfl (any_of HT_.out (by kernel_rfl)) (fun _ _ _ h => h) (Or.inr ⟨by rfl, rfl⟩) ?_ ?_
        rotate_left; focus (simp only [Act.put, sA, sB, sC, i64_w, i32_w]; rfl)
        refine pure_ (i := 27) (N := some 109) (v := undef) (a' := ?_) qq60 rfl rfl (any_of HT_.out (by kernel_rfl)) (fun _ _ _ h => h) (Or.inr ⟨by rfl, rfl⟩) ?_ ?_
        rotate_left; focus (simp only [Act.put, sA, sB, sC, i64_w, i32_w]; rfl)
        refine pure_ (i := 28) (N := some 110) (v := undef) (a' := ?_) qq61 rfl rfl (any_of HT_.out (by kernel_rfl)) (fun _ _ _ h => h) (Or.inr ⟨by rfl, rfl⟩) ?_ ?_
        rotate_left; focus (simp only [Act.put, sA, sB, sC, i64_w, i32_w]; rfl)
        refine pure_ (i := 29) (N := some 111) (v := undef) (a' := ?_) qq62 rfl rfl (any_of HT_.out (by kernel_rfl)) (fun _ _ _ h => h) (Or.inr ⟨by rfl, rfl⟩) ?_ ?_
        rotate_left; focus (simp only [Act.put, sA, sB, sC, i64_w, i32_w]; rfl)
        refine pure_ (i := 30) (N := some 112) (v := undef) (a' := ?_) qq79 rfl rfl (any_of HT_.out (by kernel_rfl)) (fun _ _ _ h => h) (Or.inr ⟨by rfl, rfl⟩) ?_ ?_
        rotate_left; focus (simp only [Act.put, sA, sB, sC, i64_w, i32_w]; rfl)
        refine pure_ (i := 31) (N := some 113) (v := undef) (a' := ?_) qq80 rfl rfl (any_of HT_.out (by kernel_rfl)) (fun _ _ _ h => h) (Or.inr ⟨by rfl, rfl⟩) ?_ ?_
        rotate_left; focus (simp only [Act.put, sA, sB, sC, i64_w, i32_w]; rfl)
        refine pure_ (i := 32) (N := some 114) (v := undef) (a' := ?_) qq81 rfl rfl (any_of HT_.out (by kernel_rfl)) (fun _ _ _ h => h) (Or.inr ⟨by rfl, rfl⟩) ?_ ?_
        rotate_left; focus (simp only [Act.put, sA, sB, sC, i64_w, i32_w]; rfl)
        refine pure_ (i := 33) (N := some 115) (v := undef) (a' := ?_) qq66 rfl rfl (any_of HT_.out (by kernel_rfl)) (fun _ _ _ h => h) (Or.inr ⟨by rfl, rfl⟩) ?_ ?_
        rotate_left; focus (simp only [Act.put, sA, sB, sC, i64_w, i32_w]; rfl)
        refine pure_ (i := 34) (N := some 116) (v := undef) (a' := ?_) qq67 rfl rfl (any_of HT_.out (by kernel_rfl)) (fun _ _ _ h => h) (Or.inr ⟨by rfl, rfl⟩) ?_ ?_
        rotate_left; focus (simp only [Act.put, sA, sB, sC, i64_w, i32_w]; rfl)
        refine pure_ (i := 35) (N := some 117) (v := undef) (a' := ?_) qq68 rfl rfl (any_of HT_.out (by kernel_rfl)) (fun _ _ _ h => h) (Or.inr ⟨by rfl, rfl⟩) ?_ ?_
        rotate_left; focus (simp only [Act.put, sA, sB, sC, i64_w, i32_w]; rfl)
        refine pure_ (i := 36) (N := some 118) (v := undef) (a' := ?_) qq69 rfl rfl (any_of HT_.out (by kernel_rfl)) (fun _ _ _ h => h) (Or.inr ⟨by rfl, rfl⟩) ?_ ?_
        rotate_left; focus (simp only [Act.put, sA, sB, sC, i64_w, i32_w]; rfl)
        refine pure_ (i := 37) (N := some 119) (v := undef) (a' := ?_) qq70 rfl rfl (any_of HT_.out (by kernel_rfl)) (fun _ _ _ h => h) (Or.inr ⟨by rfl, rfl⟩) ?_ ?_
        rotate_left; focus (simp only [Act.put, sA, sB, sC, i64_w, i32_w]; rfl)
        refine pure_ (i := 38) (N := some 120) (v := undef) (a' := ?_) qq71 rfl rfl (any_of HT_.out (by kernel_rfl)) (fun _ _ _ h => h) (Or.inr ⟨by rfl, rfl⟩) ?_ ?_
        rotate_left; focus (simp only [Act.put, sA, sB, sC, i64_w, i32_w]; rfl)
        refine pure_ (i := 39) (N := some 121) (v := undef) (a' := ?_) qq72 rfl rfl (any_of HT_.out (by kernel_rfl)) (fun _ _ _ h => h) (Or.inr ⟨by rfl, rfl⟩) ?_ ?_
        rotate_left; focus (simp only [Act.put, sA, sB, sC, i64_w, i32_w]; rfl)
        refine pure_ (i := 40) (N := some 122) (v := undef) (a' := ?_) qq73 rfl rfl (any_of HT_.out (by kernel_rfl)) (fun _ _ _ h => h) (Or.inr ⟨by rfl, rfl⟩) ?_ ?_
        rotate_left; focus (simp only [Act.put, sA, sB, sC, i64_w, i32_w]; rfl)
        refine pure_ (i := 41) (N := some 123) (v := ?_) (a' := ?_) qq74 rfl rfl (any_of HT_.out (by kernel_rfl)) (fun _ _ _ h => h) (Or.inl ⟨by rfl, ?_⟩) ?_ ?_
        rotate_left; focus (intro w'; go_simp; with_reducible rfl)
        rotate_left; focus (simp only [Act.put, sA, sB, sC, i64_w, i32_w]; rfl)
        refine done_ (done_of HT_.out (by kernel_rfl)) ?_
        try go_wp2
        go_meet
        case rel => exact ⟨_, (false), (by first | rfl | (simp; done) | (simp [*]; done)), H', ⟨by have := HJ28.out; first | omega | exact Nat.le_refl _⟩, ⟨by (with_reducible repeat (first | refine blk_drewN ?_ _ | refine blk_drew ?_ | refine blk_alloc ?_ _)); exact BK237.out⟩, ⟨by (with_reducible repeat (first | refine blk_drewN ?_ _ | refine blk_drew ?_ | refine blk_alloc ?_ _)); exact BK238.out⟩, ⟨by (with_reducible repeat (first | refine blk_drewN ?_ _ | refine blk_drew ?_ | refine blk_alloc ?_ _)); exact BK242.out⟩, ⟨by repeat (first | (with_reducible first | exact HB.out | apply below_alloc | apply pw_below_drewN | apply below_drew1) | exact HB.out)⟩⟩
      case rest =>
       clear HC96
       try clear p2
       try clear c3
       try clear c9
       try clear c39
       try clear c97
       try clear c99
       obtain ⟨kq, x123_95, rfl, HA, HJ95, BK237, BK238, BK242, HB⟩ := hcut
       cases kq with
       | zero => exact absurd HA.out (by simp [laws_FnSpans.j1])
       | succ kj95 =>
        have H := HA.out
        clear HA
        simp only [laws_FnSpans.j1] at H
        by_cases c141 : x123_95 = true
        ·subst c141
         have H1 : (some false) = some true := by rw [if_pos rfl] at H; exact H
         clear H
         have H := H1
         clear H1
         exact absurd (Option.some.inj H) (by decide)
        ·replace c141 := Bool.eq_false_iff.mpr c141
         subst c141
         have H1 : ((spec_DrawHolds.f kj95 l0).bind fun bt266 => ((impl_Holds.f t233 t234 bt266.2.2).bind fun t270 => (if t270 = true then ((impl_Holds.f t235 t236 bt266.2.2).bind fun t271 => ((impl_Holds.f t239 t240 bt266.2.2).bind fun t272 => (if (t271 != t272) = true then (laws_FnSpans.j2 kj95 l0 bt266.2.2 t241 bt266.1 bt266.2.1) else (laws_FnSpans.j2 kj95 l0 bt266.2.2 false bt266.1 bt266.2.1)))) else (laws_FnSpans.j2 kj95 l0 bt266.2.2 false bt266.1 bt266.2.1)))) = some true := by rw [if_neg (show ¬ (false = true) by decide)] at H; exact H
         clear H
         have H := H1
         clear H1
         replace H := Option.bind_eq_some_iff.mp H
         obtain ⟨⟨t266, t267, t268⟩, A1420, H⟩ := H
         replace H : ((impl_Holds.f t233 t234 t268).bind fun t270 => (if t270 = true then ((impl_Holds.f t235 t236 t268).bind fun t271 => ((impl_Holds.f t239 t240 t268).bind fun t272 => (if (t271 != t272) = true then (laws_FnSpans.j2 kj95 l0 t268 t241 t266 t267) else (laws_FnSpans.j2 kj95 l0 t268 false t266 t267)))) else (laws_FnSpans.j2 kj95 l0 t268 false t266 t267))) = some true := H
         have A142 := Aside0.mk A1420
         clear A1420
         have HC143 := Aside0.mk H
         clear H
         go_upto_region 15 with (first | ((with_reducible refine gate_callee (f := 40) rfl ?_); refine goesL_ (some 126) rfl rfl Try.func40 (by kernel_rfl) rfl #[.slice A0 l0.length c0] rfl (by (try simp only [List.map_toArray, List.map_cons, List.map_nil]); first | done | rfl | (simp only [List.length_drop, List.length_take]; rfl)) ?_; (with_reducible refine (spec_DrawHolds.calls kj95 _ _ l0 t266 t267 t268 _ ?side1 ?side2 A142.out).mono ?_); (case side1 => repeat (first | exact (Kd.C_below HR0.out HB.out) | (with_reducible refine Kd.C_alloc ?_ _) | (with_reducible refine Kd.C_drewN ?_ _) | (with_reducible refine Kd.C_drew ?_))); (case side2 => exact HC0.out); rintro e w144 ⟨rfl, hb⟩; refine ⟨_, rfl, ?_⟩; have n0_ := qcb hb BK237; have n1_ := qcb hb BK238; have n2_ := qcb hb BK242; have n6_ := Aside0.mk (below_step (by repeat (first | (with_reducible first | exact HB.out | apply below_alloc | apply pw_below_drewN | apply below_drew1) | exact HB.out)) hb); clear BK237; clear BK238; clear BK242; clear BK250; clear BK254; clear HB; have BK237 := n0_; have BK238 := n1_; have BK242 := n2_; have HB := n6_; clear n0_ n1_ n2_ n6_; (try clear hb); (try clear hb2); (try clear hk); (try clear hi)) | ((with_reducible refine gate_dst (N := 13) rfl ?_); refine box_event ?hg (N := 13) ?hd (cs := #[.int .i64 0, .int .i64 0]) (t := 54) ?hr ?_; (case hd => rfl); (case hg => rfl); (case hr => first | (go_simp; done) | (go_simp; rfl)); intro gb269 hg w145 hbox hb; have n0_ := qcb hb BK237; have n1_ := qcb hb BK238; have n2_ := qcb hb BK242; have n6_ := Aside0.mk (below_step (by repeat (first | (with_reducible first | exact HB.out | apply below_alloc | apply pw_below_drewN | apply below_drew1) | exact HB.out)) hb); have n7_ := Aside0.mk (hbox); have n9_ := Aside0.mk ((by rw [hg]; exact (below_size (by repeat (first | (with_reducible first | exact HB.out | apply below_alloc | apply pw_below_drewN | apply below_drew1) | exact HB.out))) : w.heap.size ≤ gb269)); have n10_ := Aside0.mk ((by rw [hg]; exact Nat.ne_of_lt (blk_lt (g := gb237) (o := .cells #[.int .i64 t233, .int .i64 t234] 54 (0, 0)) (by (with_reducible repeat (first | refine blk_drewN ?_ _ | refine blk_drew ?_ | refine blk_alloc ?_ _)); exact BK237.out)) : gb237 ≠ gb269)); have n11_ := Aside0.mk ((by rw [hg]; exact Nat.ne_of_gt (blk_lt (g := gb237) (o := .cells #[.int .i64 t233, .int .i64 t234] 54 (0, 0)) (by (with_reducible repeat (first | refine blk_drewN ?_ _ | refine blk_drew ?_ | refine blk_alloc ?_ _)); exact BK237.out)) : gb269 ≠ gb237)); have n12_ := Aside0.mk ((by rw [hg]; exact Nat.ne_of_lt (blk_lt (g := gb238) (o := .cells #[.int .i64 t235, .int .i64 t236] 54 (0, 0)) (by (with_reducible repeat (first | refine blk_drewN ?_ _ | refine blk_drew ?_ | refine blk_alloc ?_ _)); exact BK238.out)) : gb238 ≠ gb269)); have n13_ := Aside0.mk ((by rw [hg]; exact Nat.ne_of_gt (blk_lt (g := gb238) (o := .cells #[.int .i64 t235, .int .i64 t236] 54 (0, 0)) (by (with_reducible repeat (first | refine blk_drewN ?_ _ | refine blk_drew ?_ | refine blk_alloc ?_ _)); exact BK238.out)) : gb269 ≠ gb238)); have n14_ := Aside0.mk ((by rw [hg]; exact Nat.ne_of_lt (blk_lt (g := gb242) (o := .cells #[.int .i64 t239, .int .i64 t240] 54 (0, 0)) (by (with_reducible repeat (first | refine blk_drewN ?_ _ | refine blk_drew ?_ | refine blk_alloc ?_ _)); exact BK242.out)) : gb242 ≠ gb269)); have n15_ := Aside0.mk ((by rw [hg]; exact Nat.ne_of_gt (blk_lt (g := gb242) (o := .cells #[.int .i64 t239, .int .i64 t240] 54 (0, 0)) (by (with_reducible repeat (first | refine blk_drewN ?_ _ | refine blk_drew ?_ | refine blk_alloc ?_ _)); exact BK242.out)) : gb269 ≠ gb242)); clear BK237; clear BK238; clear BK242; clear HB; have BK237 := n0_; have BK238 := n1_; have BK242 := n2_; have HB := n6_; have BK269 := n7_; have GE269 := n9_; have NB237_269 := n10_; have NB269_237 := n11_; have NB238_269 := n12_; have NB269_238 := n13_; have NB242_269 := n14_; have NB269_242 := n15_; clear n0_ n1_ n2_ n6_ n7_ n9_ n10_ n11_ n12_ n13_ n14_ n15_; clear hb hbox hg; have hnb146 := NB269_237.out; have hnc146 := NB237_269.out; have hnb147 := NB269_238.out; have hnc147 := NB238_269.out; have hnb148 := NB269_242.out; have hnc148 := NB242_269.out; have hcz152_0 : w145.cell? ⟨gb269, 0, none⟩ = some (.int .i64 0) := (blk_cell BK269.out 0).trans rfl; have hcz152_1 : w145.cell? ⟨gb269, 1, none⟩ = some (.int .i64 0) := (blk_cell BK269.out 1).trans rfl; have hfz152_0 := blk_frozen BK269.out 0; have hfz152_1 := blk_frozen BK269.out 1))
         (try simp only [Act.put, sA, sB, sC])
         go_cut [143] (fun v143 wc => ∃ (kq : Nat) (x143_142 : Bool), v143 = .bool x143_142 ∧ Aside0 (laws_FnSpans.j2 kq l0 t268 x143_142 t266 t267 = some true) ∧ Aside0 (kq ≤ kj95) ∧ Aside0 (wc.heap[gb269]? = some (.cells #[.int .i64 t266, .int .i64 t267] 54 (0, 0))) ∧ Aside0 (Below w.heap.size w wc))
         case first =>
          have H := HC143.out
          clear HC143
          replace H := Option.bind_eq_some_iff.mp H
          obtain ⟨t270, A1530, H⟩ := H
          replace H : (if t270 = true then ((impl_Holds.f t235 t236 t268).bind fun t271 => ((impl_Holds.f t239 t240 t268).bind fun t272 => (if (t271 != t272) = true then (laws_FnSpans.j2 kj95 l0 t268 t241 t266 t267) else (laws_FnSpans.j2 kj95 l0 t268 false t266 t267)))) else (laws_FnSpans.j2 kj95 l0 t268 false t266 t267)) = some true := H
          have A153 := Aside0.mk A1530
          clear A1530
          by_cases c154 : t270 = true
          ·subst c154
           have H1 : ((impl_Holds.f t235 t236 t268).bind fun t271 => ((impl_Holds.f t239 t240 t268).bind fun t272 => (if (t271 != t272) = true then (laws_FnSpans.j2 kj95 l0 t268 t241 t266 t267) else (laws_FnSpans.j2 kj95 l0 t268 false t266 t267)))) = some true := by rw [if_pos rfl] at H; exact H
           clear H
           have H := H1
           clear H1
           replace H := Option.bind_eq_some_iff.mp H
           obtain ⟨t271, A1550, H⟩ := H
           replace H : ((impl_Holds.f t239 t240 t268).bind fun t272 => (if (t271 != t272) = true then (laws_FnSpans.j2 kj95 l0 t268 t241 t266 t267) else (laws_FnSpans.j2 kj95 l0 t268 false t266 t267))) = some true := H
           have A155 := Aside0.mk A1550
           clear A1550
           replace H := Option.bind_eq_some_iff.mp H
           obtain ⟨t272, A1560, H⟩ := H
           replace H : (if (t271 != t272) = true then (laws_FnSpans.j2 kj95 l0 t268 t241 t266 t267) else (laws_FnSpans.j2 kj95 l0 t268 false t266 t267)) = some true := H
           have A156 := Aside0.mk A1560
           clear A1560
           by_cases c157 : (t271 != t272) = true
           ·rw [if_pos c157] at H
            have c157b0 : (t271 != t272) = true := c157
            (try (have c157b1 : decide (t271 = t272) = false := by simpa using c157))
            (try (have c157b2 : (t271 == t272) = false := by simpa using c157))
            (try (have c157b3 : ¬ (t271 = t272) := by simpa using c157))
            clear c157
            (first | rw [c157b0] | (simp only [i64_w, i32_w]; rw [c157b0]) | skip)
            have H' := Aside0.mk H
            clear H
            try go_wp2
            have n0_ := qff w145 (.int .i64 t266) (.int .i64 t267) NB237_269 BK237
            have n1_ := qff w145 (.int .i64 t266) (.int .i64 t267) NB238_269 BK238
            have n2_ := qff w145 (.int .i64 t266) (.int .i64 t267) NB242_269 BK242
            have n6_ : Aside0 (((w145.setCell ⟨gb269, 0, none⟩ (.int .i64 t266)).setCell ⟨gb269, 1, none⟩ (.int .i64 t267)).heap[gb269]? = some (.cells #[.int .i64 t266, .int .i64 t267] 54 (0, 0))) := ⟨by (with_reducible repeat (first | refine blk_drewN ?_ _ | refine blk_drew ?_ | refine blk_alloc ?_ _)); refine blk_put (cs := #[.int .i64 t266, .int .i64 0]) ?_ 1 _ rfl; (with_reducible repeat (first | refine blk_drewN ?_ _ | refine blk_drew ?_ | refine blk_alloc ?_ _)); refine blk_put (cs := #[.int .i64 0, .int .i64 0]) ?_ 0 _ rfl; (with_reducible repeat (first | refine blk_drewN ?_ _ | refine blk_drew ?_ | refine blk_alloc ?_ _)); exact BK269.out⟩
            have n7_ : Aside0 (Below w.heap.size w ((w145.setCell ⟨gb269, 0, none⟩ (.int .i64 t266)).setCell ⟨gb269, 1, none⟩ (.int .i64 t267))) := ⟨by repeat (first | (with_reducible first | exact HB.out | apply below_alloc | apply pw_below_drewN | apply below_drew1 | refine below_set ?_ GE269.out) | exact HB.out)⟩
            (try clear BK237); (try clear BK238)
            (try clear BK242)
            (try clear BK269); (try clear HB)
            generalize ((w145.setCell ⟨gb269, 0, none⟩ (.int .i64 t266)).setCell ⟨gb269, 1, none⟩ (.int .i64 t267)) = w158 at n0_ n1_ n2_ n6_ n7_ ⊢
            have BK237 := n0_
            have BK238 := n1_
            have BK242 := n2_
            have BK269 := n6_
            have HB := n7_
            clear n0_ n1_ n2_ n6_ n7_
            have n0_ := Aside0.mk (blk_drew BK237.out)
            have n1_ := Aside0.mk (blk_drew BK238.out)
            have n2_ := Aside0.mk (blk_drew BK242.out)
            have n6_ := Aside0.mk (blk_drew BK269.out)
            have n7_ := Aside0.mk (below_drew1 HB.out)
            clear BK237; clear BK238
            clear BK242
            clear BK269; clear HB
            have BK237 := n0_
            have BK238 := n1_
            have BK242 := n2_
            have BK269 := n6_
            have HB := n7_
            clear n0_ n1_ n2_ n6_ n7_
            refine start_ (n := 15) (S := fun w' => w'.cell? ⟨gb237, 0, none⟩ = some (.int .i64 t233) ∧ w'.cell? ⟨gb237, 1, none⟩ = some (.int .i64 t234) ∧ w'.cell? ⟨gb238, 0, none⟩ = some (.int .i64 t235) ∧ w'.cell? ⟨gb238, 1, none⟩ = some (.int .i64 t236) ∧ w'.cell? ⟨gb242, 0, none⟩ = some (.int .i64 t239) ∧ w'.cell? ⟨gb242, 1, none⟩ = some (.int .i64 t240)) (ds := []) qq82 (by kernel_rfl) rfl rfl ⟨(blk_cell BK237.out 0).trans rfl, (blk_cell BK237.out 1).trans rfl, (blk_cell BK238.out 0).trans rfl, (blk_cell BK238.out 1).trans rfl, (blk_cell BK242.out 0).trans rfl, (blk_cell BK242.out 1).trans rfl⟩ (fun hHeld => ?_); refine with_tabW laws_FnSpans.tab15 laws_FnSpans.bits15 (fun HT_ HW_ => ?_)
            generalize w158.drew = w159 at BK237 BK238 BK242 BK269 HB hHeld ⊢
            refine pure_ (i := 1) (N := some 130) (v := ?_) (a' := ?_) qq83 rfl rfl (any_of HT_.out (by kernel_rfl)) (fun _ _ _ h => h) (Or.inl ⟨by rfl, ?_⟩) ?_ ?_
            rotate_left; focus (intro w'; go_simp; with_reducible rfl)
            rotate_left; focus (simp only [Act.put, sA, sB, sC, i64_w, i32_w]; rfl)
            refine take_ (i := 0) (N := some 129) (v := ?_) (a' := ?_) qq84 rfl rfl (take_ofW HT_.out HW_.out (by kernel_rfl)) (fun _ _ _ h => h) (Or.inl ⟨by rfl, ?_⟩) hHeld ?_ ?_
            rotate_left; focus (rintro w' ⟨s0, s1, s2, s3, s4, s5⟩; go_simp; with_reducible rfl)
            rotate_left; focus (simp only [Act.put, sA, sB, sC, i64_w, i32_w]; rfl)
            refine one_ (i := 2) (N := some 131) qq85 rfl rfl (one_of HT_.out (by kernel_rfl)) (by decide) (fun K hK => ?_)
            refine goes_ Try.func39 (by kernel_rfl) rfl #[.agg #[.int .i64 t233, .int .i64 t234], .int .i64 t268] (by rfl) rfl rfl (by (try simp only [List.map_toArray, List.map_cons, List.map_nil]); first | done | rfl | (simp only [List.length_drop, List.length_take]; rfl)) ?_
            with_reducible refine (impl_Holds.calls t233 t234 t268 true _ A153.out).mono ?_
            rintro e w160 ⟨rfl, hb⟩
            refine ⟨_, rfl, ?_⟩
            have n0_ := qcb hb BK237
            have n1_ := qcb hb BK238
            have n2_ := qcb hb BK242
            have n6_ := qcb hb BK269
            have n7_ := Aside0.mk (below_step (by repeat (first | (with_reducible first | exact HB.out | apply below_alloc | apply pw_below_drewN | apply below_drew1) | exact HB.out)) hb)
            clear BK237; clear BK238
            clear BK242
            clear BK269; clear HB
            have BK237 := n0_
            have BK238 := n1_
            have BK242 := n2_
            have BK269 := n6_
            have HB := n7_
            clear n0_ n1_ n2_ n6_ n7_; (try clear hb)
            (try clear hb2); (try clear hk); (try clear hi)
            refine hK.out _ _ ⟨(blk_cell BK237.out 0).trans rfl, (blk_cell BK237.out 1).trans rfl, (blk_cell BK238.out 0).trans rfl, (blk_cell BK238.out 1).trans rfl, (blk_cell BK242.out 0).trans rfl, (blk_cell BK242.out 1).trans rfl⟩ (fun hHeld => ?_)
            clear hK K
            refine norm_ (a' := ?_) ?_ ?_
            rotate_left; focus (show Act.put _ (some 131) _ = _; simp only [Act.put, sA, sB, sC, i64_w, i32_w]; rfl)
            refine pure_ (i := 3) (N := some 132) (v := ?_) (a' := ?_) qq86 rfl rfl (any_of HT_.out (by kernel_rfl)) (fun _ _ _ h => h) (Or.inl ⟨by rfl, ?_⟩) ?_ ?_
            rotate_left; focus (intro w'; go_simp; with_reducible rfl)
            rotate_left; focus (simp only [Act.put, sA, sB, sC, i64_w, i32_w]; rfl)
            refine pure_ (i := 5) (N := some 134) (v := ?_) (a' := ?_) qq87 rfl rfl (any_of HT_.out (by kernel_rfl)) (fun _ _ _ h => h) (Or.inl ⟨by rfl, ?_⟩) ?_ ?_
            rotate_left; focus (intro w'; go_simp; with_reducible rfl)
            rotate_left; focus (simp only [Act.put, sA, sB, sC, i64_w, i32_w]; rfl)
            refine pure_ (i := 8) (N := some 137) (v := ?_) (a' := ?_) qq88 rfl rfl (any_of HT_.out (by kernel_rfl)) (fun _ _ _ h => h) (Or.inl ⟨by rfl, ?_⟩) ?_ ?_
            rotate_left; focus (intro w'; go_simp; with_reducible rfl)
            rotate_left; focus (simp only [Act.put, sA, sB, sC, i64_w, i32_w]; rfl)
            refine take_ (i := 4) (N := some 133) (v := ?_) (a' := ?_) qq89 rfl rfl (take_ofW HT_.out HW_.out (by kernel_rfl)) (fun _ _ _ h => h) (Or.inl ⟨by rfl, ?_⟩) hHeld ?_ ?_
            rotate_left; focus (rintro w' ⟨s0, s1, s2, s3, s4, s5⟩; go_simp; with_reducible rfl)
            rotate_left; focus (simp only [Act.put, sA, sB, sC, i64_w, i32_w]; rfl)
            refine take_ (i := 7) (N := some 136) (v := ?_) (a' := ?_) qq90 rfl rfl (take_ofW HT_.out HW_.out (by kernel_rfl)) (fun _ _ _ h => h) (Or.inl ⟨by rfl, ?_⟩) hHeld ?_ ?_
            rotate_left; focus (rintro w' ⟨s0, s1, s2, s3, s4, s5⟩; go_simp; with_reducible rfl)
            rotate_left; focus (simp only [Act.put, sA, sB, sC, i64_w, i32_w]; rfl)
            refine one_ (i := 6) (N := some 135) qq91 rfl rfl (one_of HT_.out (by kernel_rfl)) (by decide) (fun K hK => ?_)
            refine goes_ Try.func39 (by kernel_rfl) rfl #[.agg #[.int .i64 t235, .int .i64 t236], .int .i64 t268] (by rfl) rfl rfl (by (try simp only [List.map_toArray, List.map_cons, List.map_nil]); first | done | rfl | (simp only [List.length_drop, List.length_take]; rfl)) ?_
            with_reducible refine (impl_Holds.calls t235 t236 t268 t271 _ A155.out).mono ?_
            rintro e w161 ⟨rfl, hb⟩
            refine ⟨_, rfl, ?_⟩
            have n0_ := qcb hb BK237
            have n1_ := qcb hb BK238
            have n2_ := qcb hb BK242
            have n6_ := qcb hb BK269
            have n7_ := Aside0.mk (below_step (by repeat (first | (with_reducible first | exact HB.out | apply below_alloc | apply pw_below_drewN | apply below_drew1) | exact HB.out)) hb)
            clear BK237; clear BK238
            clear BK242
            clear BK269; clear HB
            have BK237 := n0_
            have BK238 := n1_
            have BK242 := n2_
            have BK269 := n6_
            have HB := n7_
            clear n0_ n1_ n2_ n6_ n7_; (try clear hb)
            (try clear hb2); (try clear hk); (try clear hi)
            refine hK.out _ _ ⟨(blk_cell BK237.out 0).trans rfl, (blk_cell BK237.out 1).trans rfl, (blk_cell BK238.out 0).trans rfl, (blk_cell BK238.out 1).trans rfl, (blk_cell BK242.out 0).trans rfl, (blk_cell BK242.out 1).trans rfl⟩ (fun hHeld => ?_)
            clear hK K
            refine norm_ (a' := ?_) ?_ ?_
            rotate_left; focus (show Act.put _ (some 135) _ = _; simp only [Act.put, sA, sB, sC, i64_w, i32_w]; rfl)
            refine one_ (i := 9) (N := some 138) qq92 rfl rfl (one_of HT_.out (by kernel_rfl)) (by decide) (fun K hK => ?_)
            refine goes_ Try.func39 (by kernel_rfl) rfl #[.agg #[.int .i64 t239, .int .i64 t240], .int .i64 t268] (by rfl) rfl rfl (by (try simp only [List.map_toArray, List.map_cons, List.map_nil]); first | done | rfl | (simp only [List.length_drop, List.length_take]; rfl)) ?_
            with_reducible refine (impl_Holds.calls t239 t240 t268 t272 _ A156.out).mono ?_
            rintro e w162 ⟨rfl, hb⟩
            refine ⟨_, rfl, ?_⟩
            have n0_ := qcb hb BK237
            have n1_ := qcb hb BK238
            have n2_ := qcb hb BK242
            have n6_ := qcb hb BK269
            have n7_ := Aside0.mk (below_step (by repeat (first | (with_reducible first | exact HB.out | apply below_alloc | apply pw_below_drewN | apply below_drew1) | exact HB.out)) hb)
            clear BK237; clear BK238
            clear BK242
            clear BK269; clear HB
            have BK237 := n0_
            have BK238 := n1_
            have BK242 := n2_
            have BK269 := n6_
            have HB := n7_
            clear n0_ n1_ n2_ n6_ n7_; (try clear hb)
            (try clear hb2); (try clear hk); (try clear hi)
            refine hK.out _ _ ⟨(blk_cell BK237.out 0).trans rfl, (blk_cell BK237.out 1).trans rfl, (blk_cell BK238.out 0).trans rfl, (blk_cell BK238.out 1).trans rfl, (blk_cell BK242.out 0).trans rfl, (blk_cell BK242.out 1).trans rfl⟩ (fun hHeld => ?_)
            clear hK K
            refine norm_ (a' := ?_) ?_ ?_
            rotate_left; focus (show Act.put _ (some 138) _ = _; simp only [Act.put, sA, sB, sC, i64_w, i32_w]; rfl)
            refine pure_ (i := 10) (N := some 139) (v := ?_) (a' := ?_) qq93 rfl rfl (any_of HT_.out (by kernel_rfl)) (fun _ _ _ h => h) (Or.inl ⟨by rfl, ?_⟩) ?_ ?_
            rotate_left; focus (intro w'; go_simp; with_reducible rfl)
            rotate_left; focus (simp only [Act.put, sA, sB, sC, i64_w, i32_w]; rfl)
            refine pure_ (i := 11) (N := some 140) (v := ?_) (a' := ?_) qq94 rfl rfl (any_of HT_.out (by kernel_rfl)) (fun _ _ _ h => h) (Or.inl ⟨by rfl, ?_⟩) ?_ ?_
            rotate_left; focus (intro w'; go_simp; with_reducible rfl)
            rotate_left; focus (simp only [Act.put, sA, sB, sC, i64_w, i32_w]; rfl)
            refine pure_ (i := 12) (N := some 141) (v := ?_) (a' := ?_) qq95 rfl rfl (any_of HT_.out (by kernel_rfl)) (fun _ _ _ h => h) (Or.inl ⟨by rfl, ?_⟩) ?_ ?_
            rotate_left; focus (intro w'; go_simp; with_reducible rfl)
            rotate_left; focus (simp only [Act.put, sA, sB, sC, i64_w, i32_w]; rfl)
            refine pure_ (i := 13) (N := some 142) (v := ?_) (a' := ?_) qq96 rfl rfl (any_of HT_.out (by kernel_rfl)) (fun _ _ _ h => h) (Or.inl ⟨by rfl, ?_⟩) ?_ ?_
            rotate_left; focus (intro w'; go_simp; with_reducible rfl)
            rotate_left; focus (simp only [Act.put, sA, sB, sC, i64_w, i32_w]; rfl)
            refine pure_ (i := 14) (N := some 143) (v := ?_) (a' := ?_) qq97 rfl rfl (any_of HT_.out (by kernel_rfl)) (fun _ _ _ h => h) (Or.inl ⟨by rfl, ?_⟩) ?_ ?_
            rotate_left; focus (intro w'; go_simp; with_reducible rfl)
            rotate_left; focus (simp only [Act.put, sA, sB, sC, i64_w, i32_w]; rfl)
            refine done_ (done_of HT_.out (by kernel_rfl)) ?_
            try go_wp2
            go_meet
            case rel => exact ⟨_, (t241), (by first | rfl | (simp; done) | (simp [*]; done)), H', ⟨by have := HJ28.out; have := HJ95.out; first | omega | exact Nat.le_refl _⟩, ⟨by (with_reducible repeat (first | refine blk_drewN ?_ _ | refine blk_drew ?_ | refine blk_alloc ?_ _)); exact BK269.out⟩, ⟨by repeat (first | (with_reducible first | exact HB.out | apply below_alloc | apply pw_below_drewN | apply below_drew1) | exact HB.out)⟩⟩
           ·rw [if_neg c157] at H
            have c157b0 : (t271 != t272) = false := by simpa using c157
            (try (have c157b1 : decide (t271 = t272) = true := by simpa using c157))
            (try (have c157b2 : (t271 == t272) = true := by simpa using c157))
            clear c157
            (first | rw [c157b0] | (simp only [i64_w, i32_w]; rw [c157b0]) | skip)
            have H' := Aside0.mk H
            clear H
            try go_wp2
            have n0_ := qff w145 (.int .i64 t266) (.int .i64 t267) NB237_269 BK237
            have n1_ := qff w145 (.int .i64 t266) (.int .i64 t267) NB238_269 BK238
            have n2_ := qff w145 (.int .i64 t266) (.int .i64 t267) NB242_269 BK242
            have n6_ : Aside0 (((w145.setCell ⟨gb269, 0, none⟩ (.int .i64 t266)).setCell ⟨gb269, 1, none⟩ (.int .i64 t267)).heap[gb269]? = some (.cells #[.int .i64 t266, .int .i64 t267] 54 (0, 0))) := ⟨by (with_reducible repeat (first | refine blk_drewN ?_ _ | refine blk_drew ?_ | refine blk_alloc ?_ _)); refine blk_put (cs := #[.int .i64 t266, .int .i64 0]) ?_ 1 _ rfl; (with_reducible repeat (first | refine blk_drewN ?_ _ | refine blk_drew ?_ | refine blk_alloc ?_ _)); refine blk_put (cs := #[.int .i64 0, .int .i64 0]) ?_ 0 _ rfl; (with_reducible repeat (first | refine blk_drewN ?_ _ | refine blk_drew ?_ | refine blk_alloc ?_ _)); exact BK269.out⟩
            have n7_ : Aside0 (Below w.heap.size w ((w145.setCell ⟨gb269, 0, none⟩ (.int .i64 t266)).setCell ⟨gb269, 1, none⟩ (.int .i64 t267))) := ⟨by repeat (first | (with_reducible first | exact HB.out | apply below_alloc | apply pw_below_drewN | apply below_drew1 | refine below_set ?_ GE269.out) | exact HB.out)⟩
            (try clear BK237); (try clear BK238)
            (try clear BK242)
            (try clear BK269); (try clear HB)
            generalize ((w145.setCell ⟨gb269, 0, none⟩ (.int .i64 t266)).setCell ⟨gb269, 1, none⟩ (.int .i64 t267)) = w163 at n0_ n1_ n2_ n6_ n7_ ⊢
            have BK237 := n0_
            have BK238 := n1_
            have BK242 := n2_
            have BK269 := n6_
            have HB := n7_
            clear n0_ n1_ n2_ n6_ n7_
            have n0_ := Aside0.mk (blk_drew BK237.out)
            have n1_ := Aside0.mk (blk_drew BK238.out)
            have n2_ := Aside0.mk (blk_drew BK242.out)
            have n6_ := Aside0.mk (blk_drew BK269.out)
            have n7_ := Aside0.mk (below_drew1 HB.out)
            clear BK237; clear BK238
            clear BK242
            clear BK269; clear HB
            have BK237 := n0_
            have BK238 := n1_
            have BK242 := n2_
            have BK269 := n6_
            have HB := n7_
            clear n0_ n1_ n2_ n6_ n7_
            refine start_ (n := 15) (S := fun w' => w'.cell? ⟨gb237, 0, none⟩ = some (.int .i64 t233) ∧ w'.cell? ⟨gb237, 1, none⟩ = some (.int .i64 t234) ∧ w'.cell? ⟨gb238, 0, none⟩ = some (.int .i64 t235) ∧ w'.cell? ⟨gb238, 1, none⟩ = some (.int .i64 t236) ∧ w'.cell? ⟨gb242, 0, none⟩ = some (.int .i64 t239) ∧ w'.cell? ⟨gb242, 1, none⟩ = some (.int .i64 t240)) (ds := []) qq82 (by kernel_rfl) rfl rfl ⟨(blk_cell BK237.out 0).trans rfl, (blk_cell BK237.out 1).trans rfl, (blk_cell BK238.out 0).trans rfl, (blk_cell BK238.out 1).trans rfl, (blk_cell BK242.out 0).trans rfl, (blk_cell BK242.out 1).trans rfl⟩ (fun hHeld => ?_); refine with_tabW laws_FnSpans.tab15 laws_FnSpans.bits15 (fun HT_ HW_ => ?_)
            generalize w163.drew = w164 at BK237 BK238 BK242 BK269 HB hHeld ⊢
            refine pure_ (i := 1) (N := some 130) (v := ?_) (a' := ?_) qq83 rfl rfl (any_of HT_.out (by kernel_rfl)) (fun _ _ _ h => h) (Or.inl ⟨by rfl, ?_⟩) ?_ ?_
            rotate_left; focus (intro w'; go_simp; with_reducible rfl)
            rotate_left; focus (simp only [Act.put, sA, sB, sC, i64_w, i32_w]; rfl)
            refine take_ (i := 0) (N := some 129) (v := ?_) (a' := ?_) qq84 rfl rfl (take_ofW HT_.out HW_.out (by kernel_rfl)) (fun _ _ _ h => h) (Or.inl ⟨by rfl, ?_⟩) hHeld ?_ ?_
            rotate_left; focus (rintro w' ⟨s0, s1, s2, s3, s4, s5⟩; go_simp; with_reducible rfl)
            rotate_left; focus (simp only [Act.put, sA, sB, sC, i64_w, i32_w]; rfl)
            refine one_ (i := 2) (N := some 131) qq85 rfl rfl (one_of HT_.out (by kernel_rfl)) (by decide) (fun K hK => ?_)
            refine goes_ Try.func39 (by kernel_rfl) rfl #[.agg #[.int .i64 t233, .int .i64 t234], .int .i64 t268] (by rfl) rfl rfl (by (try simp only [List.map_toArray, List.map_cons, List.map_nil]); first | done | rfl | (simp only [List.length_drop, List.length_take]; rfl)) ?_
            with_reducible refine (impl_Holds.calls t233 t234 t268 true _ A153.out).mono ?_
            rintro e w165 ⟨rfl, hb⟩
            refine ⟨_, rfl, ?_⟩
            have n0_ := qcb hb BK237
            have n1_ := qcb hb BK238
            have n2_ := qcb hb BK242
            have n6_ := qcb hb BK269
            have n7_ := Aside0.mk (below_step (by repeat (first | (with_reducible first | exact HB.out | apply below_alloc | apply pw_below_drewN | apply below_drew1) | exact HB.out)) hb)
            clear BK237; clear BK238
            clear BK242
            clear BK269; clear HB
            have BK237 := n0_
            have BK238 := n1_
            have BK242 := n2_
            have BK269 := n6_
            have HB := n7_
            clear n0_ n1_ n2_ n6_ n7_; (try clear hb)
            (try clear hb2); (try clear hk); (try clear hi)
            refine hK.out _ _ ⟨(blk_cell BK237.out 0).trans rfl, (blk_cell BK237.out 1).trans rfl, (blk_cell BK238.out 0).trans rfl, (blk_cell BK238.out 1).trans rfl, (blk_cell BK242.out 0).trans rfl, (blk_cell BK242.out 1).trans rfl⟩ (fun hHeld => ?_)
            clear hK K
            refine norm_ (a' := ?_) ?_ ?_
            rotate_left; focus (show Act.put _ (some 131) _ = _; simp only [Act.put, sA, sB, sC, i64_w, i32_w]; rfl)
            refine pure_ (i := 3) (N := some 132) (v := ?_) (a' := ?_) qq86 rfl rfl (any_of HT_.out (by kernel_rfl)) (fun _ _ _ h => h) (Or.inl ⟨by rfl, ?_⟩) ?_ ?_
            rotate_left; focus (intro w'; go_simp; with_reducible rfl)
            rotate_left; focus (simp only [Act.put, sA, sB, sC, i64_w, i32_w]; rfl)
            refine pure_ (i := 5) (N := some 134) (v := ?_) (a' := ?_) qq87 rfl rfl (any_of HT_.out (by kernel_rfl)) (fun _ _ _ h => h) (Or.inl ⟨by rfl, ?_⟩) ?_ ?_
            rotate_left; focus (intro w'; go_simp; with_reducible rfl)
            rotate_left; focus (simp only [Act.put, sA, sB, sC, i64_w, i32_w]; rfl)
            refine pure_ (i := 8) (N := some 137) (v := ?_) (a' := ?_) qq88 rfl rfl (any_of HT_.out (by kernel_rfl)) (fun _ _ _ h => h) (Or.inl ⟨by rfl, ?_⟩) ?_ ?_
            rotate_left; focus (intro w'; go_simp; with_reducible rfl)
            rotate_left; focus (simp only [Act.put, sA, sB, sC, i64_w, i32_w]; rfl)
            refine take_ (i := 4) (N := some 133) (v := ?_) (a' := ?_) qq89 rfl rfl (take_ofW HT_.out HW_.out (by kernel_rfl)) (fun _ _ _ h => h) (Or.inl ⟨by rfl, ?_⟩) hHeld ?_ ?_
            rotate_left; focus (rintro w' ⟨s0, s1, s2, s3, s4, s5⟩; go_simp; with_reducible rfl)
            rotate_left; focus (simp only [Act.put, sA, sB, sC, i64_w, i32_w]; rfl)
            refine take_ (i := 7) (N := some 136) (v := ?_) (a' := ?_) qq90 rfl rfl (take_ofW HT_.out HW_.out (by kernel_rfl)) (fun _ _ _ h => h) (Or.inl ⟨by rfl, ?_⟩) hHeld ?_ ?_
            rotate_left; focus (rintro w' ⟨s0, s1, s2, s3, s4, s5⟩; go_simp; with_reducible rfl)
            rotate_left; focus (simp only [Act.put, sA, sB, sC, i64_w, i32_w]; rfl)
            refine one_ (i := 6) (N := some 135) qq91 rfl rfl (one_of HT_.out (by kernel_rfl)) (by decide) (fun K hK => ?_)
            refine goes_ Try.func39 (by kernel_rfl) rfl #[.agg #[.int .i64 t235, .int .i64 t236], .int .i64 t268] (by rfl) rfl rfl (by (try simp only [List.map_toArray, List.map_cons, List.map_nil]); first | done | rfl | (simp only [List.length_drop, List.length_take]; rfl)) ?_
            with_reducible refine (impl_Holds.calls t235 t236 t268 t271 _ A155.out).mono ?_
            rintro e w166 ⟨rfl, hb⟩
            refine ⟨_, rfl, ?_⟩
            have n0_ := qcb hb BK237
            have n1_ := qcb hb BK238
            have n2_ := qcb hb BK242
            have n6_ := qcb hb BK269
            have n7_ := Aside0.mk (below_step (by repeat (first | (with_reducible first | exact HB.out | apply below_alloc | apply pw_below_drewN | apply below_drew1) | exact HB.out)) hb)
            clear BK237; clear BK238
            clear BK242
            clear BK269; clear HB
            have BK237 := n0_
            have BK238 := n1_
            have BK242 := n2_
            have BK269 := n6_
            have HB := n7_
            clear n0_ n1_ n2_ n6_ n7_; (try clear hb)
            (try clear hb2); (try clear hk); (try clear hi)
            refine hK.out _ _ ⟨(blk_cell BK237.out 0).trans rfl, (blk_cell BK237.out 1).trans rfl, (blk_cell BK238.out 0).trans rfl, (blk_cell BK238.out 1).trans rfl, (blk_cell BK242.out 0).trans rfl, (blk_cell BK242.out 1).trans rfl⟩ (fun hHeld => ?_)
            clear hK K
            refine norm_ (a' := ?_) ?_ ?_
            rotate_left; focus (show Act.put _ (some 135) _ = _; simp only [Act.put, sA, sB, sC, i64_w, i32_w]; rfl)
            refine one_ (i := 9) (N := some 138) qq92 rfl rfl (one_of HT_.out (by kernel_rfl)) (by decide) (fun K hK => ?_)
            refine goes_ Try.func39 (by kernel_rfl) rfl #[.agg #[.int .i64 t239, .int .i64 t240], .int .i64 t268] (by rfl) rfl rfl (by (try simp only [List.map_toArray, List.map_cons, List.map_nil]); first | done | rfl | (simp only [List.length_drop, List.length_take]; rfl)) ?_
            with_reducible refine (impl_Holds.calls t239 t240 t268 t272 _ A156.out).mono ?_
            rintro e w167 ⟨rfl, hb⟩
            refine ⟨_, rfl, ?_⟩
            have n0_ := qcb hb BK237
            have n1_ := qcb hb BK238
            have n2_ := qcb hb BK242
            have n6_ := qcb hb BK269
            have n7_ := Aside0.mk (below_step (by repeat (first | (with_reducible first | exact HB.out | apply below_alloc | apply pw_below_drewN | apply below_drew1) | exact HB.out)) hb)
            clear BK237; clear BK238
            clear BK242
            clear BK269; clear HB
            have BK237 := n0_
            have BK238 := n1_
            have BK242 := n2_
            have BK269 := n6_
            have HB := n7_
            clear n0_ n1_ n2_ n6_ n7_; (try clear hb)
            (try clear hb2); (try clear hk); (try clear hi)
            refine hK.out _ _ ⟨(blk_cell BK237.out 0).trans rfl, (blk_cell BK237.out 1).trans rfl, (blk_cell BK238.out 0).trans rfl, (blk_cell BK238.out 1).trans rfl, (blk_cell BK242.out 0).trans rfl, (blk_cell BK242.out 1).trans rfl⟩ (fun hHeld => ?_)
            clear hK K
            refine norm_ (a' := ?_) ?_ ?_
            rotate_left; focus (show Act.put _ (some 138) _ = _; simp only [Act.put, sA, sB, sC, i64_w, i32_w]; rfl)
            refine pure_ (i := 10) (N := some 139) (v := ?_) (a' := ?_) qq93 rfl rfl (any_of HT_.out (by kernel_rfl)) (fun _ _ _ h => h) (Or.inl ⟨by rfl, ?_⟩) ?_ ?_
            rotate_left; focus (intro w'; go_simp; with_reducible rfl)
            rotate_left; focus (simp only [Act.put, sA, sB, sC, i64_w, i32_w]; rfl)
            refine pure_ (i := 11) (N := some 140) (v := ?_) (a' := ?_) qq94 rfl rfl (any_of HT_.out (by kernel_rfl)) (fun _ _ _ h => h) (Or.inl ⟨by rfl, ?_⟩) ?_ ?_
            rotate_left; focus (intro w'; go_simp; with_reducible rfl)
            rotate_left; focus (simp only [Act.put, sA, sB, sC, i64_w, i32_w]; rfl)
            refine pure_ (i := 12) (N := some 141) (v := ?_) (a' := ?_) qq95 rfl rfl (any_of HT_.out (by kernel_rfl)) (fun _ _ _ h => h) (Or.inl ⟨by rfl, ?_⟩) ?_ ?_
            rotate_left; focus (intro w'; go_simp; with_reducible rfl)
            rotate_left; focus (simp only [Act.put, sA, sB, sC, i64_w, i32_w]; rfl)
            refine pure_ (i := 13) (N := some 142) (v := undef) (a' := ?_) qq96 rfl rfl (any_of HT_.out (by kernel_rfl)) (fun _ _ _ h => h) (Or.inr ⟨by rfl, rfl⟩) ?_ ?_
            rotate_left; focus (simp only [Act.put, sA, sB, sC, i64_w, i32_w]; rfl)
            refine pure_ (i := 14) (N := some 143) (v := ?_) (a' := ?_) qq97 rfl rfl (any_of HT_.out (by kernel_rfl)) (fun _ _ _ h => h) (Or.inl ⟨by rfl, ?_⟩) ?_ ?_
            rotate_left; focus (intro w'; go_simp; with_reducible rfl)
            rotate_left; focus (simp only [Act.put, sA, sB, sC, i64_w, i32_w]; rfl)
            refine done_ (done_of HT_.out (by kernel_rfl)) ?_
            try go_wp2
            go_meet
            case rel => exact ⟨_, (false), (by first | rfl | (simp; done) | (simp [*]; done)), H', ⟨by have := HJ28.out; have := HJ95.out; first | omega | exact Nat.le_refl _⟩, ⟨by (with_reducible repeat (first | refine blk_drewN ?_ _ | refine blk_drew ?_ | refine blk_alloc ?_ _)); exact BK269.out⟩, ⟨by repeat (first | (with_reducible first | exact HB.out | apply below_alloc | apply pw_below_drewN | apply below_drew1) | exact HB.out)⟩⟩
          ·replace c154 := Bool.eq_false_iff.mpr c154
           subst c154
           have H1 : (laws_FnSpans.j2 kj95 l0 t268 false t266 t267) = some true := by rw [if_neg (show ¬ (false = true) by decide)] at H; exact H
           clear H
           have H := H1
           clear H1
           have H' := Aside0.mk H
           clear H
           try go_wp2
           have n0_ := qff w145 (.int .i64 t266) (.int .i64 t267) NB237_269 BK237
           have n6_ : Aside0 (((w145.setCell ⟨gb269, 0, none⟩ (.int .i64 t266)).setCell ⟨gb269, 1, none⟩ (.int .i64 t267)).heap[gb269]? = some (.cells #[.int .i64 t266, .int .i64 t267] 54 (0, 0))) := ⟨by (with_reducible repeat (first | refine blk_drewN ?_ _ | refine blk_drew ?_ | refine blk_alloc ?_ _)); refine blk_put (cs := #[.int .i64 t266, .int .i64 0]) ?_ 1 _ rfl; (with_reducible repeat (first | refine blk_drewN ?_ _ | refine blk_drew ?_ | refine blk_alloc ?_ _)); refine blk_put (cs := #[.int .i64 0, .int .i64 0]) ?_ 0 _ rfl; (with_reducible repeat (first | refine blk_drewN ?_ _ | refine blk_drew ?_ | refine blk_alloc ?_ _)); exact BK269.out⟩
           have n7_ : Aside0 (Below w.heap.size w ((w145.setCell ⟨gb269, 0, none⟩ (.int .i64 t266)).setCell ⟨gb269, 1, none⟩ (.int .i64 t267))) := ⟨by repeat (first | (with_reducible first | exact HB.out | apply below_alloc | apply pw_below_drewN | apply below_drew1 | refine below_set ?_ GE269.out) | exact HB.out)⟩
           (try clear BK237); (try clear BK238)
           (try clear BK242)
           (try clear BK269); (try clear HB)
           generalize ((w145.setCell ⟨gb269, 0, none⟩ (.int .i64 t266)).setCell ⟨gb269, 1, none⟩ (.int .i64 t267)) = w168 at n0_ n6_ n7_ ⊢
           have BK237 := n0_
           have BK269 := n6_
           have HB := n7_
           clear n0_ n6_ n7_
           have n0_ := Aside0.mk (blk_drew BK237.out)
           have n6_ := Aside0.mk (blk_drew BK269.out)
           have n7_ := Aside0.mk (below_drew1 HB.out)
           clear BK237
           clear BK269; clear HB
           have BK237 := n0_
           have BK269 := n6_
           have HB := n7_
           clear n0_ n6_ n7_
           refine start_ (n := 15) (S := fun w' => w'.cell? ⟨gb237, 0, none⟩ = some (.int .i64 t233) ∧ w'.cell? ⟨gb237, 1, none⟩ = some (.int .i64 t234)) (ds := []) qq82 (by kernel_rfl) rfl rfl ⟨(blk_cell BK237.out 0).trans rfl, (blk_cell BK237.out 1).trans rfl⟩ (fun hHeld => ?_); refine with_tabW laws_FnSpans.tab15 laws_FnSpans.bits15 (fun HT_ HW_ => ?_)
           generalize w168.drew = w169 at BK237 BK269 HB hHeld ⊢
           refine pure_ (i := 1) (N := some 130) (v := ?_) (a' := ?_) qq83 rfl rfl (any_of HT_.out (by kernel_rfl)) (fun _ _ _ h => h) (Or.inl ⟨by rfl, ?_⟩) ?_ ?_
           rotate_left; focus (intro w'; go_simp; with_reducible rfl)
           rotate_left; focus (simp only [Act.put, sA, sB, sC, i64_w, i32_w]; rfl)
           refine take_ (i := 0) (N := some 129) (v := ?_) (a' := ?_) qq84 rfl rfl (take_ofW HT_.out HW_.out (by kernel_rfl)) (fun _ _ _ h => h) (Or.inl ⟨by rfl, ?_⟩) hHeld ?_ ?_
           rotate_left; focus (rintro w' ⟨s0, s1⟩; go_simp; with_reducible rfl)
           rotate_left; focus (simp only [Act.put, sA, sB, sC, i64_w, i32_w]; rfl)
           refine one_ (i := 2) (N := some 131) qq85 rfl rfl (one_of HT_.out (by kernel_rfl)) (by decide) (fun K hK => ?_)
           refine goes_ Try.func39 (by kernel_rfl) rfl #[.agg #[.int .i64 t233, .int .i64 t234], .int .i64 t268] (by rfl) rfl rfl (by (try simp only [List.map_toArray, List.map_cons, List.map_nil]); first | done | rfl | (simp only [List.length_drop, List.length_take]; rfl)) ?_
           with_reducible refine (impl_Holds.calls t233 t234 t268 false _ A153.out).mono ?_
           rintro e w170 ⟨rfl, hb⟩
           refine ⟨_, rfl, ?_⟩
           have n0_ := qcb hb BK237
           have n6_ := qcb hb BK269
           have n7_ := Aside0.mk (below_step (by repeat (first | (with_reducible first | exact HB.out | apply below_alloc | apply pw_below_drewN | apply below_drew1) | exact HB.out)) hb)
           clear BK237
           clear BK269; clear HB
           have BK237 := n0_
           have BK269 := n6_
           have HB := n7_
           clear n0_ n6_ n7_; (try clear hb)
           (try clear hb2); (try clear hk); (try clear hi)
           refine hK.out _ _ ⟨(blk_cell BK237.out 0).trans rfl, (blk_cell BK237.out 1).trans rfl⟩ (fun hHeld => ?_)
           clear hK K
           refine norm_ (a' := ?_) ?_ ?_
           rotate_left; focus (show Act.put _ (some 131) _ = _; simp only [Act.put, sA, sB, sC, i64_w, i32_w]; rfl)
           refine pure_ (i := 3) (N := some 132) (v := ?_) (a' := ?_) qq86 rfl rfl (any_of HT_.out (by kernel_rfl)) (fun _ _ _ h => h) (Or.inl ⟨by rfl, ?_⟩) ?_ ?_
           rotate_left; focus (intro w'; go_simp; with_reducible rfl)
           rotate_left; focus (simp only [Act.put, sA, sB, sC, i64_w, i32_w]; rfl)
           refine pure_ (i := 4) (N := some 133) (v := undef) (a' := ?_) qq98 rfl rfl (any_of HT_.out (by kernel_rfl)) (fun _ _ _ h => h) (Or.inr ⟨by rfl, rfl⟩) ?_ ?_
           rotate_left; focus (simp only [Act.put, sA, sB, sC, i64_w, i32_w]; rfl)
           refine pure_ (i := 5) (N := some 134) (v := undef) (a' := ?_) qq99 rfl rfl (any_of HT_.out (by kernel_rfl)) (fun _ _ _ h => h) (Or.inr ⟨by rfl, rfl⟩) ?_ ?_
           rotate_left; focus (simp only [Act.put, sA, sB, sC, i64_w, i32_w]; rfl)
           refine pure_ (i := 6) (N := some 135) (v := undef) (a' := ?_) qq100 rfl rfl (any_of HT_.out (by kernel_rfl)) (fun _ _ _ h => h) (Or.inr ⟨by rfl, rfl⟩) ?_ ?_
           rotate_left; focus (simp only [Act.put, sA, sB, sC, i64_w, i32_w]; rfl)
           refine pure_ (i := 7) (N := some 136) (v := undef) (a' := ?_) qq101 rfl rfl (any_of HT_.out (by kernel_rfl)) (fun _ _ _ h => h) (Or.inr ⟨by rfl, rfl⟩) ?_ ?_
           rotate_left; focus (simp only [Act.put, sA, sB, sC, i64_w, i32_w]; rfl)
           refine pure_ (i := 8) (N := some 137) (v := undef) (a' := ?_) qq91 rfl rfl (any_of HT_.out (by kernel_rfl)) (fun _ _ _ h => h) (Or.inr ⟨by rfl, rfl⟩) ?_ ?_
           rotate_left; focus (simp only [Act.put, sA, sB, sC, i64_w, i32_w]; rfl)
           refine pure_ (i := 9) (N := some 138) (v := undef) (a' := ?_) qq92 rfl rfl (any_of HT_.out (by kernel_rfl)) (fun _ _ _ h => h) (Or.inr ⟨by rfl, rfl⟩) ?_ ?_
           rotate_left; focus (simp only [Act.put, sA, sB, sC, i64_w, i32_w]; rfl)
           refine pure_ (i := 10) (N := some 139) (v := undef) (a' := ?_) qq93 rfl rfl (any_of HT_.out (by kernel_rfl)) (fun _ _ _ h => h) (Or.inr ⟨by rfl, rfl⟩) ?_ ?_
           rotate_left; focus (simp only [Act.put, sA, sB, sC, i64_w, i32_w]; rfl)
           refine pure_ (i := 11) (N := some 140) (v := ?_) (a' := ?_) qq94 rfl rfl (any_of HT_.out (by kernel_rfl)) (fun _ _ _ h => h) (Or.inl ⟨by rfl, ?_⟩) ?_ ?_
           rotate_left; focus (intro w'; go_simp; with_reducible rfl)
           rotate_left; focus (simp only [Act.put, sA, sB, sC, i64_w, i32_w]; rfl)
           refine pure_ (i := 12) (N := some 141) (v := ?_) (a' := ?_) qq95 rfl rfl (any_of HT_.out (by kernel_rfl)) (fun _ _ _ h => h) (Or.inl ⟨by rfl, ?_⟩) ?_ ?_
           rotate_left; focus (intro w'; go_simp; with_reducible rfl)
           rotate_left; focus (simp only [Act.put, sA, sB, sC, i64_w, i32_w]; rfl)
           refine pure_ (i := 13) (N := some 142) (v := undef) (a' := ?_) qq96 rfl rfl (any_of HT_.out (by kernel_rfl)) (fun _ _ _ h => h) (Or.inr ⟨by rfl, rfl⟩) ?_ ?_
           rotate_left; focus (simp only [Act.put, sA, sB, sC, i64_w, i32_w]; rfl)
           refine pure_ (i := 14) (N := some 143) (v := ?_) (a' := ?_) qq97 rfl rfl (any_of HT_.out (by kernel_rfl)) (fun _ _ _ h => h) (Or.inl ⟨by rfl, ?_⟩) ?_ ?_
           rotate_left; focus (intro w'; go_simp; with_reducible rfl)
           rotate_left; focus (simp only [Act.put, sA, sB, sC, i64_w, i32_w]; rfl)
           refine done_ (done_of HT_.out (by kernel_rfl)) ?_
           try go_wp2
           go_meet
           case rel => exact ⟨_, (false), (by first | rfl | (simp; done) | (simp [*]; done)), H', ⟨by have := HJ28.out; have := HJ95.out; first | omega | exact Nat.le_refl _⟩, ⟨by (with_reducible repeat (first | refine blk_drewN ?_ _ | refine blk_drew ?_ | refine blk_alloc ?_ _)); exact BK269.out⟩, ⟨by repeat (first | (with_reducible first | exact HB.out | apply below_alloc | apply pw_below_drewN | apply below_drew1) | exact HB.out)⟩⟩
         case rest =>
          clear HC143
          try clear c1
          try clear p2
          try clear c3
          try clear c15
          try clear c39
          try clear c154
          try clear c157
          try clear c157b0
          try clear c157b1
          try clear c157b2
          obtain ⟨kq, x143_142, rfl, HA, HJ142, BK269, HB⟩ := hcut
          cases kq with
          | zero => exact absurd HA.out (by simp [laws_FnSpans.j2])
          | succ kj142 =>
           have H := HA.out
           clear HA
           simp only [laws_FnSpans.j2] at H
           by_cases c171 : x143_142 = true
           ·subst c171
            have H1 : (some false) = some true := by rw [if_pos rfl] at H; exact H
            clear H
            have H := H1
            clear H1
            exact absurd (Option.some.inj H) (by decide)
           ·replace c171 := Bool.eq_false_iff.mpr c171
            subst c171
            have H1 : ((spec_DrawWiden.f kj142 l0).bind fun bt273 => ((impl_Widen.f bt273.1 bt273.2.1 bt273.2.2).bind fun bt277 => (if bt277.2.2 = true then ((impl_IsSpan.f bt277.1 bt277.2.1).bind fun t281 => (if t281 = true then ((impl_Hours.f bt277.1 bt277.2.1).bind fun t282 => ((impl_Hours.f bt273.1 bt273.2.1).bind fun t283 => (if t282 ≥ t283 then ((impl_Holds.f t266 t267 t268).bind fun t284 => (if t284 = true then ((impl_Hours.f t266 t267).bind fun t285 => (some (decide (t285 > 0)))) else (some true))) else (some false)))) else (some false))) else ((impl_Holds.f t266 t267 t268).bind fun t286 => (if t286 = true then ((impl_Hours.f t266 t267).bind fun t287 => (some (decide (t287 > 0)))) else (some true)))))) = some true := by rw [if_neg (show ¬ (false = true) by decide)] at H; exact H
            clear H
            have H := H1
            clear H1
            replace H := Option.bind_eq_some_iff.mp H
            obtain ⟨⟨t273, t274, t275⟩, A1720, H⟩ := H
            replace H : ((impl_Widen.f t273 t274 t275).bind fun bt277 => (if bt277.2.2 = true then ((impl_IsSpan.f bt277.1 bt277.2.1).bind fun t281 => (if t281 = true then ((impl_Hours.f bt277.1 bt277.2.1).bind fun t282 => ((impl_Hours.f t273 t274).bind fun t283 => (if t282 ≥ t283 then ((impl_Holds.f t266 t267 t268).bind fun t284 => (if t284 = true then ((impl_Hours.f t266 t267).bind fun t285 => (some (decide (t285 > 0)))) else (some true))) else (some false)))) else (some false))) else ((impl_Holds.f t266 t267 t268).bind fun t286 => (if t286 = true then ((impl_Hours.f t266 t267).bind fun t287 => (some (decide (t287 > 0)))) else (some true))))) = some true := H
            have A172 := Aside0.mk A1720
            clear A1720
            replace H := Option.bind_eq_some_iff.mp H
            obtain ⟨⟨t277, t278, t279⟩, A1730, H⟩ := H
            replace H : (if t279 = true then ((impl_IsSpan.f t277 t278).bind fun t281 => (if t281 = true then ((impl_Hours.f t277 t278).bind fun t282 => ((impl_Hours.f t273 t274).bind fun t283 => (if t282 ≥ t283 then ((impl_Holds.f t266 t267 t268).bind fun t284 => (if t284 = true then ((impl_Hours.f t266 t267).bind fun t285 => (some (decide (t285 > 0)))) else (some true))) else (some false)))) else (some false))) else ((impl_Holds.f t266 t267 t268).bind fun t286 => (if t286 = true then ((impl_Hours.f t266 t267).bind fun t287 => (some (decide (t287 > 0)))) else (some true)))) = some true := H
            have A173 := Aside0.mk A1730
            clear A1730
            by_cases c174 : t279 = true
            ·subst c174
             have H1 : ((impl_IsSpan.f t277 t278).bind fun t281 => (if t281 = true then ((impl_Hours.f t277 t278).bind fun t282 => ((impl_Hours.f t273 t274).bind fun t283 => (if t282 ≥ t283 then ((impl_Holds.f t266 t267 t268).bind fun t284 => (if t284 = true then ((impl_Hours.f t266 t267).bind fun t285 => (some (decide (t285 > 0)))) else (some true))) else (some false)))) else (some false))) = some true := by rw [if_pos rfl] at H; exact H
             clear H
             have H := H1
             clear H1
             replace H := Option.bind_eq_some_iff.mp H
             obtain ⟨t281, A1750, H⟩ := H
             replace H : (if t281 = true then ((impl_Hours.f t277 t278).bind fun t282 => ((impl_Hours.f t273 t274).bind fun t283 => (if t282 ≥ t283 then ((impl_Holds.f t266 t267 t268).bind fun t284 => (if t284 = true then ((impl_Hours.f t266 t267).bind fun t285 => (some (decide (t285 > 0)))) else (some true))) else (some false)))) else (some false)) = some true := H
             have A175 := Aside0.mk A1750
             clear A1750
             by_cases c176 : t281 = true
             ·subst c176
              have H1 : ((impl_Hours.f t277 t278).bind fun t282 => ((impl_Hours.f t273 t274).bind fun t283 => (if t282 ≥ t283 then ((impl_Holds.f t266 t267 t268).bind fun t284 => (if t284 = true then ((impl_Hours.f t266 t267).bind fun t285 => (some (decide (t285 > 0)))) else (some true))) else (some false)))) = some true := by rw [if_pos rfl] at H; exact H
              clear H
              have H := H1
              clear H1
              replace H := Option.bind_eq_some_iff.mp H
              obtain ⟨t282, A1770, H⟩ := H
              replace H : ((impl_Hours.f t273 t274).bind fun t283 => (if t282 ≥ t283 then ((impl_Holds.f t266 t267 t268).bind fun t284 => (if t284 = true then ((impl_Hours.f t266 t267).bind fun t285 => (some (decide (t285 > 0)))) else (some true))) else (some false))) = some true := H
              have A177 := Aside0.mk A1770
              clear A1770
              replace H := Option.bind_eq_some_iff.mp H
              obtain ⟨t283, A1780, H⟩ := H
              replace H : (if t282 ≥ t283 then ((impl_Holds.f t266 t267 t268).bind fun t284 => (if t284 = true then ((impl_Hours.f t266 t267).bind fun t285 => (some (decide (t285 > 0)))) else (some true))) else (some false)) = some true := H
              have A178 := Aside0.mk A1780
              clear A1780
              by_cases c179 : t282 ≥ t283
              ·rw [if_pos c179] at H
               have c179b0 : decide (t283 ≤ t282) = true := decide_eq_true c179
               clear c179
               replace H := Option.bind_eq_some_iff.mp H
               obtain ⟨t284, A1800, H⟩ := H
               replace H : (if t284 = true then ((impl_Hours.f t266 t267).bind fun t285 => (some (decide (t285 > 0)))) else (some true)) = some true := H
               have A180 := Aside0.mk A1800
               clear A1800
               by_cases c181 : t284 = true
               ·subst c181
                have H1 : ((impl_Hours.f t266 t267).bind fun t285 => (some (decide (t285 > 0)))) = some true := by rw [if_pos rfl] at H; exact H
                clear H
                have H := H1
                clear H1
                replace H := Option.bind_eq_some_iff.mp H
                obtain ⟨t285, A1820, H⟩ := H
                replace H : (some (decide (t285 > 0))) = some true := H
                have A182 := Aside0.mk A1820
                clear A1820
                have hd_ := Option.some.inj H
                try go_wp2_with (first | ((with_reducible refine gate_callee (f := 41) rfl ?_); refine goesL_ (some 146) rfl rfl Try.func41 (by kernel_rfl) rfl #[.slice A0 l0.length c0] rfl (by (try simp only [List.map_toArray, List.map_cons, List.map_nil]); first | done | rfl | (simp only [List.length_drop, List.length_take]; rfl)) ?_; (with_reducible refine (spec_DrawWiden.calls kj142 _ _ l0 t273 t274 t275 _ ?side1 ?side2 A172.out).mono ?_); (case side1 => repeat (first | exact (Kd.C_below HR0.out HB.out) | (with_reducible refine Kd.C_alloc ?_ _) | (with_reducible refine Kd.C_drewN ?_ _) | (with_reducible refine Kd.C_drew ?_))); (case side2 => exact HC0.out); rintro e w183 ⟨rfl, hb⟩; refine ⟨_, rfl, ?_⟩; have n6_ := qcb hb BK269; have n7_ := Aside0.mk (below_step (by repeat (first | (with_reducible first | exact HB.out | apply below_alloc | apply pw_below_drewN | apply below_drew1) | exact HB.out)) hb); clear BK237; clear BK238; clear BK242; clear BK269; clear HB; have BK269 := n6_; have HB := n7_; clear n6_ n7_; (try clear hb); (try clear hb2); (try clear hk); (try clear hi)) | ((with_reducible refine gate_dst (N := 15) rfl ?_); refine box_event ?hg (N := 15) ?hd (cs := #[.int .i64 0, .int .i64 0]) (t := 54) ?hr ?_; (case hd => rfl); (case hg => rfl); (case hr => first | (go_simp; done) | (go_simp; rfl)); intro gb276 hg w184 hbox hb; have n6_ := qcb hb BK269; have n7_ := Aside0.mk (below_step (by repeat (first | (with_reducible first | exact HB.out | apply below_alloc | apply pw_below_drewN | apply below_drew1) | exact HB.out)) hb); have n8_ := Aside0.mk (hbox); have n10_ := Aside0.mk ((by rw [hg]; exact (below_size (by repeat (first | (with_reducible first | exact HB.out | apply below_alloc | apply pw_below_drewN | apply below_drew1) | exact HB.out))) : w.heap.size ≤ gb276)); have n23_ := Aside0.mk ((by rw [hg]; exact Nat.ne_of_lt (blk_lt (g := gb269) (o := .cells #[.int .i64 t266, .int .i64 t267] 54 (0, 0)) (by (with_reducible repeat (first | refine blk_drewN ?_ _ | refine blk_drew ?_ | refine blk_alloc ?_ _)); exact BK269.out)) : gb269 ≠ gb276)); have n24_ := Aside0.mk ((by rw [hg]; exact Nat.ne_of_gt (blk_lt (g := gb269) (o := .cells #[.int .i64 t266, .int .i64 t267] 54 (0, 0)) (by (with_reducible repeat (first | refine blk_drewN ?_ _ | refine blk_drew ?_ | refine blk_alloc ?_ _)); exact BK269.out)) : gb276 ≠ gb269)); clear BK269; clear HB; have BK269 := n6_; have HB := n7_; have BK276 := n8_; have GE276 := n10_; have NB269_276 := n23_; have NB276_269 := n24_; clear n6_ n7_ n8_ n10_ n23_ n24_; clear hb hbox hg; have hnb191 := NB276_269.out; have hnc191 := NB269_276.out; have hcz192_0 : w184.cell? ⟨gb276, 0, none⟩ = some (.int .i64 0) := (blk_cell BK276.out 0).trans rfl; have hcz192_1 : w184.cell? ⟨gb276, 1, none⟩ = some (.int .i64 0) := (blk_cell BK276.out 1).trans rfl; have hfz192_0 := blk_frozen BK276.out 0; have hfz192_1 := blk_frozen BK276.out 1) | ((with_reducible refine gate_callee (f := 42) rfl ?_); refine goesL_ (some 152) rfl rfl Try.func42 (by kernel_rfl) rfl #[.agg #[.int .i64 t273, .int .i64 t274], .int .i64 t275] rfl (by (try simp only [List.map_toArray, List.map_cons, List.map_nil]); first | done | rfl | (simp only [List.length_drop, List.length_take]; rfl)) ?_; (with_reducible refine (impl_Widen.calls t273 t274 t275 t277 t278 true _ A173.out).mono ?_); rintro e w193 ⟨rfl, hb⟩; refine ⟨_, rfl, ?_⟩; have n6_ := Aside0.mk (blk_below (g := gb269) (o := .cells #[.int .i64 t266, .int .i64 t267] 54 (0, 0)) (by (with_reducible repeat (first | refine blk_drewN ?_ _ | refine blk_drew ?_ | refine blk_alloc ?_ _)); refine blk_far ?_ NB269_276.out _; (with_reducible repeat (first | refine blk_drewN ?_ _ | refine blk_drew ?_ | refine blk_alloc ?_ _)); refine blk_far ?_ NB269_276.out _; (with_reducible repeat (first | refine blk_drewN ?_ _ | refine blk_drew ?_ | refine blk_alloc ?_ _)); exact BK269.out) hb); have n7_ := Aside0.mk (blk_below (g := gb276) (o := .cells #[.int .i64 t273, .int .i64 t274] 54 (0, 0)) (by (with_reducible repeat (first | refine blk_drewN ?_ _ | refine blk_drew ?_ | refine blk_alloc ?_ _)); refine blk_put (cs := #[.int .i64 t273, .int .i64 0]) ?_ 1 _ rfl; (with_reducible repeat (first | refine blk_drewN ?_ _ | refine blk_drew ?_ | refine blk_alloc ?_ _)); refine blk_put (cs := #[.int .i64 0, .int .i64 0]) ?_ 0 _ rfl; (with_reducible repeat (first | refine blk_drewN ?_ _ | refine blk_drew ?_ | refine blk_alloc ?_ _)); exact BK276.out) hb); have n8_ := Aside0.mk (below_step (by repeat (first | (with_reducible first | exact HB.out | apply below_alloc | apply pw_below_drewN | apply below_drew1 | refine below_set ?_ GE276.out) | exact HB.out)) hb); clear BK269; clear BK276; clear HB; have BK269 := n6_; have BK276 := n7_; have HB := n8_; clear n6_ n7_ n8_; (try clear hb); (try clear hb2); (try clear hk); (try clear hi)) | ((with_reducible refine gate_dst (N := 17) rfl ?_); refine box_event ?hg (N := 17) ?hd (cs := #[.int .i64 0, .int .i64 0]) (t := 54) ?hr ?_; (case hd => rfl); (case hg => rfl); (case hr => first | (go_simp; done) | (go_simp; rfl)); intro gb280 hg w194 hbox hb; have n6_ := qcb hb BK269; have n7_ := qcb hb BK276; have n8_ := Aside0.mk (below_step (by repeat (first | (with_reducible first | exact HB.out | apply below_alloc | apply pw_below_drewN | apply below_drew1) | exact HB.out)) hb); have n9_ := Aside0.mk (hbox); have n11_ := Aside0.mk ((by rw [hg]; exact (below_size (by repeat (first | (with_reducible first | exact HB.out | apply below_alloc | apply pw_below_drewN | apply below_drew1) | exact HB.out))) : w.heap.size ≤ gb280)); have n24_ := Aside0.mk ((by rw [hg]; exact Nat.ne_of_lt (blk_lt (g := gb269) (o := .cells #[.int .i64 t266, .int .i64 t267] 54 (0, 0)) (by (with_reducible repeat (first | refine blk_drewN ?_ _ | refine blk_drew ?_ | refine blk_alloc ?_ _)); exact BK269.out)) : gb269 ≠ gb280)); have n25_ := Aside0.mk ((by rw [hg]; exact Nat.ne_of_gt (blk_lt (g := gb269) (o := .cells #[.int .i64 t266, .int .i64 t267] 54 (0, 0)) (by (with_reducible repeat (first | refine blk_drewN ?_ _ | refine blk_drew ?_ | refine blk_alloc ?_ _)); exact BK269.out)) : gb280 ≠ gb269)); have n26_ := Aside0.mk ((by rw [hg]; exact Nat.ne_of_lt (blk_lt (g := gb276) (o := .cells #[.int .i64 t273, .int .i64 t274] 54 (0, 0)) (by (with_reducible repeat (first | refine blk_drewN ?_ _ | refine blk_drew ?_ | refine blk_alloc ?_ _)); exact BK276.out)) : gb276 ≠ gb280)); have n27_ := Aside0.mk ((by rw [hg]; exact Nat.ne_of_gt (blk_lt (g := gb276) (o := .cells #[.int .i64 t273, .int .i64 t274] 54 (0, 0)) (by (with_reducible repeat (first | refine blk_drewN ?_ _ | refine blk_drew ?_ | refine blk_alloc ?_ _)); exact BK276.out)) : gb280 ≠ gb276)); clear BK269; clear BK276; clear HB; have BK269 := n6_; have BK276 := n7_; have HB := n8_; have BK280 := n9_; have GE280 := n11_; have NB269_280 := n24_; have NB280_269 := n25_; have NB276_280 := n26_; have NB280_276 := n27_; clear n6_ n7_ n8_ n9_ n11_ n24_ n25_ n26_ n27_; clear hb hbox hg; have hnb201 := NB280_269.out; have hnc201 := NB269_280.out; have hnb202 := NB280_276.out; have hnc202 := NB276_280.out; have hcz203_0 : w194.cell? ⟨gb280, 0, none⟩ = some (.int .i64 0) := (blk_cell BK280.out 0).trans rfl; have hcz203_1 : w194.cell? ⟨gb280, 1, none⟩ = some (.int .i64 0) := (blk_cell BK280.out 1).trans rfl; have hfz203_0 := blk_frozen BK280.out 0; have hfz203_1 := blk_frozen BK280.out 1))
                have n6_ := qff w194 (.int .i64 t277) (.int .i64 t278) NB269_280 BK269
                have n7_ := qff w194 (.int .i64 t277) (.int .i64 t278) NB276_280 BK276
                have n8_ : Aside0 (((w194.setCell ⟨gb280, 0, none⟩ (.int .i64 t277)).setCell ⟨gb280, 1, none⟩ (.int .i64 t278)).heap[gb280]? = some (.cells #[.int .i64 t277, .int .i64 t278] 54 (0, 0))) := ⟨by (with_reducible repeat (first | refine blk_drewN ?_ _ | refine blk_drew ?_ | refine blk_alloc ?_ _)); refine blk_put (cs := #[.int .i64 t277, .int .i64 0]) ?_ 1 _ rfl; (with_reducible repeat (first | refine blk_drewN ?_ _ | refine blk_drew ?_ | refine blk_alloc ?_ _)); refine blk_put (cs := #[.int .i64 0, .int .i64 0]) ?_ 0 _ rfl; (with_reducible repeat (first | refine blk_drewN ?_ _ | refine blk_drew ?_ | refine blk_alloc ?_ _)); exact BK280.out⟩
                have n9_ : Aside0 (Below w.heap.size w ((w194.setCell ⟨gb280, 0, none⟩ (.int .i64 t277)).setCell ⟨gb280, 1, none⟩ (.int .i64 t278))) := ⟨by repeat (first | (with_reducible first | exact HB.out | apply below_alloc | apply pw_below_drewN | apply below_drew1 | refine below_set ?_ GE280.out) | exact HB.out)⟩
                (try clear BK269); (try clear BK276)
                (try clear BK280); (try clear HB)
                generalize ((w194.setCell ⟨gb280, 0, none⟩ (.int .i64 t277)).setCell ⟨gb280, 1, none⟩ (.int .i64 t278)) = w204 at n6_ n7_ n8_ n9_ ⊢
                have BK269 := n6_
                have BK276 := n7_
                have BK280 := n8_
                have HB := n9_
                clear n6_ n7_ n8_ n9_
                have n6_ := Aside0.mk (blk_drew BK269.out)
                have n7_ := Aside0.mk (blk_drew BK276.out)
                have n8_ := Aside0.mk (blk_drew BK280.out)
                have n9_ := Aside0.mk (below_drew1 HB.out)
                clear BK269; clear BK276
                clear BK280; clear HB
                have BK269 := n6_
                have BK276 := n7_
                have BK280 := n8_
                have HB := n9_
                clear n6_ n7_ n8_ n9_
                refine start_ (n := 25) (S := fun w' => w'.cell? ⟨gb280, 0, none⟩ = some (.int .i64 t277) ∧ w'.cell? ⟨gb280, 1, none⟩ = some (.int .i64 t278) ∧ w'.cell? ⟨gb276, 0, none⟩ = some (.int .i64 t273) ∧ w'.cell? ⟨gb276, 1, none⟩ = some (.int .i64 t274) ∧ w'.cell? ⟨gb269, 0, none⟩ = some (.int .i64 t266) ∧ w'.cell? ⟨gb269, 1, none⟩ = some (.int .i64 t267)) (ds := []) qq102 (by kernel_rfl) rfl rfl ⟨(blk_cell BK280.out 0).trans rfl, (blk_cell BK280.out 1).trans rfl, (blk_cell BK276.out 0).trans rfl, (blk_cell BK276.out 1).trans rfl, (blk_cell BK269.out 0).trans rfl, (blk_cell BK269.out 1).trans rfl⟩ (fun hHeld => ?_); refine with_tabW laws_FnSpans.tab19 laws_FnSpans.bits19 (fun HT_ HW_ => ?_)
                generalize w204.drew = w205 at BK269 BK276 BK280 HB hHeld ⊢
                refine pure_ (i := 0) (N := some 155) (v := ?_) (a' := ?_) qq103 rfl rfl (any_of HT_.out (by kernel_rfl)) (fun _ _ _ h => h) (Or.inl ⟨by rfl, ?_⟩) ?_ ?_
                rotate_left; focus (intro w'; go_simp; with_reducible rfl)
                rotate_left; focus (simp only [Act.put, sA, sB, sC, i64_w, i32_w]; rfl)
                refine pure_ (i := 1) (N := some 156) (v := ?_) (a' := ?_) qq104 rfl rfl (any_of HT_.out (by kernel_rfl)) (fun _ _ _ h => h) (Or.inl ⟨by rfl, ?_⟩) ?_ ?_
                rotate_left; focus (intro w'; go_simp; with_reducible rfl)
                rotate_left; focus (simp only [Act.put, sA, sB, sC, i64_w, i32_w]; rfl)
                refine pure_ (i := 2) (N := some 157) (v := ?_) (a' := ?_) qq105 rfl rfl (any_of HT_.out (by kernel_rfl)) (fun _ _ _ h => h) (Or.inl ⟨by rfl, ?_⟩) ?_ ?_
                rotate_left; focus (intro w'; go_simp; with_reducible rfl)
                rotate_left; focus (simp only [Act.put, sA, sB, sC, i64_w, i32_w]; rfl)
                refine take_ (i := 3) (N := some 158) (v := ?_) (a' := ?_) qq106 rfl rfl (take_ofW HT_.out HW_.out (by kernel_rfl)) (fun _ _ _ h => h) (Or.inl ⟨by rfl, ?_⟩) hHeld ?_ ?_
                rotate_left; focus (rintro w' ⟨s0, s1, s2, s3, s4, s5⟩; go_simp; with_reducible rfl)
                rotate_left; focus (simp only [Act.put, sA, sB, sC, i64_w, i32_w]; rfl)
                refine one_ (i := 4) (N := some 159) qq107 rfl rfl (one_of HT_.out (by kernel_rfl)) (by decide) (fun K hK => ?_)
                refine goes_ Try.func43 (by kernel_rfl) rfl #[.agg #[.int .i64 t277, .int .i64 t278]] (by rfl) rfl rfl (by (try simp only [List.map_toArray, List.map_cons, List.map_nil]); first | done | rfl | (simp only [List.length_drop, List.length_take]; rfl)) ?_
                with_reducible refine (impl_IsSpan.calls t277 t278 true _ A175.out).mono ?_
                rintro e w206 ⟨rfl, hb⟩
                refine ⟨_, rfl, ?_⟩
                have n6_ := qcb hb BK269
                have n7_ := qcb hb BK276
                have n8_ := qcb hb BK280
                have n9_ := Aside0.mk (below_step (by repeat (first | (with_reducible first | exact HB.out | apply below_alloc | apply pw_below_drewN | apply below_drew1) | exact HB.out)) hb)
                clear BK269; clear BK276
                clear BK280; clear HB
                have BK269 := n6_
                have BK276 := n7_
                have BK280 := n8_
                have HB := n9_
                clear n6_ n7_ n8_ n9_; (try clear hb)
                (try clear hb2); (try clear hk); (try clear hi)
                refine hK.out _ _ ⟨(blk_cell BK280.out 0).trans rfl, (blk_cell BK280.out 1).trans rfl, (blk_cell BK276.out 0).trans rfl, (blk_cell BK276.out 1).trans rfl, (blk_cell BK269.out 0).trans rfl, (blk_cell BK269.out 1).trans rfl⟩ (fun hHeld => ?_)
                clear hK K
                refine norm_ (a' := ?_) ?_ ?_
                rotate_left; focus (show Act.put _ (some 159) _ = _; simp only [Act.put, sA, sB, sC, i64_w, i32_w]; rfl)
                refine pure_ (i := 5) (N := some 160) (v := ?_) (a' := ?_) qq108 rfl rfl (any_of HT_.out (by kernel_rfl)) (fun _ _ _ h => h) (Or.inl ⟨by rfl, ?_⟩) ?_ ?_
                rotate_left; focus (intro w'; go_simp; with_reducible rfl)
                rotate_left; focus (simp only [Act.put, sA, sB, sC, i64_w, i32_w]; rfl)
                refine take_ (i := 6) (N := some 161) (v := ?_) (a' := ?_) qq109 rfl rfl (take_ofW HT_.out HW_.out (by kernel_rfl)) (fun _ _ _ h => h) (Or.inl ⟨by rfl, ?_⟩) hHeld ?_ ?_
                rotate_left; focus (rintro w' ⟨s0, s1, s2, s3, s4, s5⟩; go_simp; with_reducible rfl)
                rotate_left; focus (simp only [Act.put, sA, sB, sC, i64_w, i32_w]; rfl)
                refine take_ (i := 8) (N := some 163) (v := ?_) (a' := ?_) qq110 rfl rfl (take_ofW HT_.out HW_.out (by kernel_rfl)) (fun _ _ _ h => h) (Or.inl ⟨by rfl, ?_⟩) hHeld ?_ ?_
                rotate_left; focus (rintro w' ⟨s0, s1, s2, s3, s4, s5⟩; go_simp; with_reducible rfl)
                rotate_left; focus (simp only [Act.put, sA, sB, sC, i64_w, i32_w]; rfl)
                refine one_ (i := 7) (N := some 162) qq111 rfl rfl (one_of HT_.out (by kernel_rfl)) (by decide) (fun K hK => ?_)
                refine goes_ Try.func38 (by kernel_rfl) rfl #[.agg #[.int .i64 t277, .int .i64 t278]] (by rfl) rfl rfl (by (try simp only [List.map_toArray, List.map_cons, List.map_nil]); first | done | rfl | (simp only [List.length_drop, List.length_take]; rfl)) ?_
                with_reducible refine (impl_Hours.calls t277 t278 t282 _ A177.out).mono ?_
                rintro e w207 ⟨rfl, hb⟩
                refine ⟨_, rfl, ?_⟩
                have n6_ := qcb hb BK269
                have n7_ := qcb hb BK276
                have n8_ := qcb hb BK280
                have n9_ := Aside0.mk (below_step (by repeat (first | (with_reducible first | exact HB.out | apply below_alloc | apply pw_below_drewN | apply below_drew1) | exact HB.out)) hb)
                clear BK269; clear BK276
                clear BK280; clear HB
                have BK269 := n6_
                have BK276 := n7_
                have BK280 := n8_
                have HB := n9_
                clear n6_ n7_ n8_ n9_; (try clear hb)
                (try clear hb2); (try clear hk); (try clear hi)
                refine hK.out _ _ ⟨(blk_cell BK280.out 0).trans rfl, (blk_cell BK280.out 1).trans rfl, (blk_cell BK276.out 0).trans rfl, (blk_cell BK276.out 1).trans rfl, (blk_cell BK269.out 0).trans rfl, (blk_cell BK269.out 1).trans rfl⟩ (fun hHeld => ?_)
                clear hK K
                refine norm_ (a' := ?_) ?_ ?_
                rotate_left; focus (show Act.put _ (some 162) _ = _; simp only [Act.put, sA, sB, sC, i64_w, i32_w]; rfl)
                refine one_ (i := 9) (N := some 164) qq112 rfl rfl (one_of HT_.out (by kernel_rfl)) (by decide) (fun K hK => ?_)
                refine goes_ Try.func38 (by kernel_rfl) rfl #[.agg #[.int .i64 t273, .int .i64 t274]] (by rfl) rfl rfl (by (try simp only [List.map_toArray, List.map_cons, List.map_nil]); first | done | rfl | (simp only [List.length_drop, List.length_take]; rfl)) ?_
                with_reducible refine (impl_Hours.calls t273 t274 t283 _ A178.out).mono ?_
                rintro e w208 ⟨rfl, hb⟩
                refine ⟨_, rfl, ?_⟩
                have n6_ := qcb hb BK269
                have n7_ := qcb hb BK276
                have n8_ := qcb hb BK280
                have n9_ := Aside0.mk (below_step (by repeat (first | (with_reducible first | exact HB.out | apply below_alloc | apply pw_below_drewN | apply below_drew1) | exact HB.out)) hb)
                clear BK269; clear BK276
                clear BK280; clear HB
                have BK269 := n6_
                have BK276 := n7_
                have BK280 := n8_
                have HB := n9_
                clear n6_ n7_ n8_ n9_; (try clear hb)
                (try clear hb2); (try clear hk); (try clear hi)
                refine hK.out _ _ ⟨(blk_cell BK280.out 0).trans rfl, (blk_cell BK280.out 1).trans rfl, (blk_cell BK276.out 0).trans rfl, (blk_cell BK276.out 1).trans rfl, (blk_cell BK269.out 0).trans rfl, (blk_cell BK269.out 1).trans rfl⟩ (fun hHeld => ?_)
                clear hK K
                refine norm_ (a' := ?_) ?_ ?_
                rotate_left; focus (show Act.put _ (some 164) _ = _; simp only [Act.put, sA, sB, sC, i64_w, i32_w]; rfl)
                refine pure_ (i := 10) (N := some 165) (v := ?_) (a' := ?_) qq113 rfl rfl (any_of HT_.out (by kernel_rfl)) (fun _ _ _ h => h) (Or.inl ⟨by rfl, ?_⟩) ?_ ?_
                rotate_left; focus (intro w'; go_simp; with_reducible rfl)
                rotate_left; focus (simp only [Act.put, sA, sB, sC, i64_w, i32_w]; rfl)
                refine pure_ (i := 11) (N := some 166) (v := ?_) (a' := ?_) qq114 rfl rfl (any_of HT_.out (by kernel_rfl)) (fun _ _ _ h => h) (Or.inl ⟨by rfl, ?_⟩) ?_ ?_
                rotate_left; focus (intro w'; go_simp; with_reducible rfl)
                rotate_left; focus (simp only [Act.put, sA, sB, sC, i64_w, i32_w]; rfl)
                refine pure_ (i := 12) (N := some 167) (v := ?_) (a' := ?_) qq115 rfl rfl (any_of HT_.out (by kernel_rfl)) (fun _ _ _ h => h) (Or.inl ⟨by rfl, ?_⟩) ?_ ?_
                rotate_left; focus (intro w'; go_simp; with_reducible rfl)
                rotate_left; focus (simp only [Act.put, sA, sB, sC, i64_w, i32_w]; rfl)
                refine pure_ (i := 13) (N := some 168) (v := ?_) (a' := ?_) qq116 rfl rfl (any_of HT_.out (by kernel_rfl)) (fun _ _ _ h => h) (Or.inl ⟨by rfl, ?_⟩) ?_ ?_
                rotate_left; focus (intro w'; go_simp; with_reducible rfl)
                rotate_left; focus (simp only [Act.put, sA, sB, sC, i64_w, i32_w]; rfl)
                refine pure_ (i := 15) (N := some 170) (v := ?_) (a' := ?_) qq117 rfl rfl (any_of HT_.out (by kernel_rfl)) (fun _ _ _ h => h) (Or.inl ⟨by rfl, ?_⟩) ?_ ?_
                rotate_left; focus (intro w'; go_simp; with_reducible rfl)
                rotate_left; focus (simp only [Act.put, sA, sB, sC, i64_w, i32_w]; rfl)
                refine take_ (i := 14) (N := some 169) (v := ?_) (a' := ?_) qq118 rfl rfl (take_ofW HT_.out HW_.out (by kernel_rfl)) (fun _ _ _ h => h) (Or.inl ⟨by rfl, ?_⟩) hHeld ?_ ?_
                rotate_left; focus (rintro w' ⟨s0, s1, s2, s3, s4, s5⟩; go_simp; with_reducible rfl)
                rotate_left; focus (simp only [Act.put, sA, sB, sC, i64_w, i32_w]; rfl)
                refine one_ (i := 16) (N := some 171) qq119 rfl rfl (one_of HT_.out (by kernel_rfl)) (by decide) (fun K hK => ?_)
                refine goes_ Try.func39 (by kernel_rfl) rfl #[.agg #[.int .i64 t266, .int .i64 t267], .int .i64 t268] (by rfl) rfl rfl (by (try simp only [List.map_toArray, List.map_cons, List.map_nil]); first | done | rfl | (simp only [List.length_drop, List.length_take]; rfl)) ?_
                with_reducible refine (impl_Holds.calls t266 t267 t268 true _ A180.out).mono ?_
                rintro e w209 ⟨rfl, hb⟩
                refine ⟨_, rfl, ?_⟩
                have n6_ := qcb hb BK269
                have n7_ := qcb hb BK276
                have n8_ := qcb hb BK280
                have n9_ := Aside0.mk (below_step (by repeat (first | (with_reducible first | exact HB.out | apply below_alloc | apply pw_below_drewN | apply below_drew1) | exact HB.out)) hb)
                clear BK269; clear BK276
                clear BK280; clear HB
                have BK269 := n6_
                have BK276 := n7_
                have BK280 := n8_
                have HB := n9_
                clear n6_ n7_ n8_ n9_; (try clear hb)
                (try clear hb2); (try clear hk); (try clear hi)
                refine hK.out _ _ ⟨(blk_cell BK280.out 0).trans rfl, (blk_cell BK280.out 1).trans rfl, (blk_cell BK276.out 0).trans rfl, (blk_cell BK276.out 1).trans rfl, (blk_cell BK269.out 0).trans rfl, (blk_cell BK269.out 1).trans rfl⟩ (fun hHeld => ?_)
                clear hK K
                refine norm_ (a' := ?_) ?_ ?_
                rotate_left; focus (show Act.put _ (some 171) _ = _; simp only [Act.put, sA, sB, sC, i64_w, i32_w]; rfl)
                refine pure_ (i := 17) (N := some 172) (v := ?_) (a' := ?_) qq120 rfl rfl (any_of HT_.out (by kernel_rfl)) (fun _ _ _ h => h) (Or.inl ⟨by rfl, ?_⟩) ?_ ?_
                rotate_left; focus (intro w'; go_simp; with_reducible rfl)
                rotate_left; focus (simp only [Act.put, sA, sB, sC, i64_w, i32_w]; rfl)
                refine pure_ (i := 18) (N := some 173) (v := ?_) (a' := ?_) qq121 rfl rfl (any_of HT_.out (by kernel_rfl)) (fun _ _ _ h => h) (Or.inl ⟨by rfl, ?_⟩) ?_ ?_
                rotate_left; focus (intro w'; go_simp; with_reducible rfl)
                rotate_left; focus (simp only [Act.put, sA, sB, sC, i64_w, i32_w]; rfl)
                refine take_ (i := 19) (N := some 174) (v := ?_) (a' := ?_) qq122 rfl rfl (take_ofW HT_.out HW_.out (by kernel_rfl)) (fun _ _ _ h => h) (Or.inl ⟨by rfl, ?_⟩) hHeld ?_ ?_
                rotate_left; focus (rintro w' ⟨s0, s1, s2, s3, s4, s5⟩; go_simp; with_reducible rfl)
                rotate_left; focus (simp only [Act.put, sA, sB, sC, i64_w, i32_w]; rfl)
                refine one_ (i := 20) (N := some 175) qq123 rfl rfl (one_of HT_.out (by kernel_rfl)) (by decide) (fun K hK => ?_)
                refine goes_ Try.func38 (by kernel_rfl) rfl #[.agg #[.int .i64 t266, .int .i64 t267]] (by rfl) rfl rfl (by (try simp only [List.map_toArray, List.map_cons, List.map_nil]); first | done | rfl | (simp only [List.length_drop, List.length_take]; rfl)) ?_
                with_reducible refine (impl_Hours.calls t266 t267 t285 _ A182.out).mono ?_
                rintro e w210 ⟨rfl, hb⟩
                refine ⟨_, rfl, ?_⟩
                have n6_ := qcb hb BK269
                have n7_ := qcb hb BK276
                have n8_ := qcb hb BK280
                have n9_ := Aside0.mk (below_step (by repeat (first | (with_reducible first | exact HB.out | apply below_alloc | apply pw_below_drewN | apply below_drew1) | exact HB.out)) hb)
                clear BK269; clear BK276
                clear BK280; clear HB
                have BK269 := n6_
                have BK276 := n7_
                have BK280 := n8_
                have HB := n9_
                clear n6_ n7_ n8_ n9_; (try clear hb)
                (try clear hb2); (try clear hk); (try clear hi)
                refine hK.out _ _ ⟨(blk_cell BK280.out 0).trans rfl, (blk_cell BK280.out 1).trans rfl, (blk_cell BK276.out 0).trans rfl, (blk_cell BK276.out 1).trans rfl, (blk_cell BK269.out 0).trans rfl, (blk_cell BK269.out 1).trans rfl⟩ (fun hHeld => ?_)
                clear hK K
                refine norm_ (a' := ?_) ?_ ?_
                rotate_left; focus (show Act.put _ (some 175) _ = _; simp only [Act.put, sA, sB, sC, i64_w, i32_w]; rfl)
                refine pure_ (i := 21) (N := some 176) (v := ?_) (a' := ?_) qq124 rfl rfl (any_of HT_.out (by kernel_rfl)) (fun _ _ _ h => h) (Or.inl ⟨by rfl, ?_⟩) ?_ ?_
                rotate_left; focus (intro w'; go_simp; with_reducible rfl)
                rotate_left; focus (simp only [Act.put, sA, sB, sC, i64_w, i32_w]; rfl)
                refine pure_ (i := 22) (N := some 177) (v := ?_) (a' := ?_) qq125 rfl rfl (any_of HT_.out (by kernel_rfl)) (fun _ _ _ h => h) (Or.inl ⟨by rfl, ?_⟩) ?_ ?_
                rotate_left; focus (intro w'; go_simp; with_reducible rfl)
                rotate_left; focus (simp only [Act.put, sA, sB, sC, i64_w, i32_w]; rfl)
                refine pure_ (i := 23) (N := some 178) (v := ?_) (a' := ?_) qq126 rfl rfl (any_of HT_.out (by kernel_rfl)) (fun _ _ _ h => h) (Or.inl ⟨by rfl, ?_⟩) ?_ ?_
                rotate_left; focus (intro w'; go_simp; with_reducible rfl)
                rotate_left; focus (simp only [Act.put, sA, sB, sC, i64_w, i32_w]; rfl)
                refine pure_ (i := 24) (N := some 2) (v := ?_) (a' := ?_) qq127 rfl rfl (any_of HT_.out (by kernel_rfl)) (fun _ _ _ h => h) (Or.inl ⟨by rfl, ?_⟩) ?_ ?_
                rotate_left; focus (intro w'; go_simp; with_reducible rfl)
                rotate_left; focus (simp only [Act.put, sA, sB, sC, i64_w, i32_w]; rfl)
                refine done_ (done_of HT_.out (by kernel_rfl)) ?_
                try go_wp2
                go_ret
                exact ⟨by first | rfl | (simp [errW_none, errW_some] <;> rfl) | (simp [*, errW_none, errW_some] <;> rfl), by repeat (first | (with_reducible first | exact HB.out | apply below_alloc | apply pw_below_drewN | apply below_drew1) | exact HB.out)⟩
               ·replace c181 := Bool.eq_false_iff.mpr c181
                subst c181
                have H1 : (some true) = some true := rfl
                clear H
                have H := H1
                clear H1; clear H
                try go_wp2_with (first | ((with_reducible refine gate_callee (f := 41) rfl ?_); refine goesL_ (some 146) rfl rfl Try.func41 (by kernel_rfl) rfl #[.slice A0 l0.length c0] rfl (by (try simp only [List.map_toArray, List.map_cons, List.map_nil]); first | done | rfl | (simp only [List.length_drop, List.length_take]; rfl)) ?_; (with_reducible refine (spec_DrawWiden.calls kj142 _ _ l0 t273 t274 t275 _ ?side1 ?side2 A172.out).mono ?_); (case side1 => repeat (first | exact (Kd.C_below HR0.out HB.out) | (with_reducible refine Kd.C_alloc ?_ _) | (with_reducible refine Kd.C_drewN ?_ _) | (with_reducible refine Kd.C_drew ?_))); (case side2 => exact HC0.out); rintro e w211 ⟨rfl, hb⟩; refine ⟨_, rfl, ?_⟩; have n6_ := qcb hb BK269; have n7_ := Aside0.mk (below_step (by repeat (first | (with_reducible first | exact HB.out | apply below_alloc | apply pw_below_drewN | apply below_drew1) | exact HB.out)) hb); clear BK237; clear BK238; clear BK242; clear BK269; clear HB; have BK269 := n6_; have HB := n7_; clear n6_ n7_; (try clear hb); (try clear hb2); (try clear hk); (try clear hi)) | ((with_reducible refine gate_dst (N := 15) rfl ?_); refine box_event ?hg (N := 15) ?hd (cs := #[.int .i64 0, .int .i64 0]) (t := 54) ?hr ?_; (case hd => rfl); (case hg => rfl); (case hr => first | (go_simp; done) | (go_simp; rfl)); intro gb276 hg w212 hbox hb; have n6_ := qcb hb BK269; have n7_ := Aside0.mk (below_step (by repeat (first | (with_reducible first | exact HB.out | apply below_alloc | apply pw_below_drewN | apply below_drew1) | exact HB.out)) hb); have n8_ := Aside0.mk (hbox); have n10_ := Aside0.mk ((by rw [hg]; exact (below_size (by repeat (first | (with_reducible first | exact HB.out | apply below_alloc | apply pw_below_drewN | apply below_drew1) | exact HB.out))) : w.heap.size ≤ gb276)); have n23_ := Aside0.mk ((by rw [hg]; exact Nat.ne_of_lt (blk_lt (g := gb269) (o := .cells #[.int .i64 t266, .int .i64 t267] 54 (0, 0)) (by (with_reducible repeat (first | refine blk_drewN ?_ _ | refine blk_drew ?_ | refine blk_alloc ?_ _)); exact BK269.out)) : gb269 ≠ gb276)); have n24_ := Aside0.mk ((by rw [hg]; exact Nat.ne_of_gt (blk_lt (g := gb269) (o := .cells #[.int .i64 t266, .int .i64 t267] 54 (0, 0)) (by (with_reducible repeat (first | refine blk_drewN ?_ _ | refine blk_drew ?_ | refine blk_alloc ?_ _)); exact BK269.out)) : gb276 ≠ gb269)); clear BK269; clear HB; have BK269 := n6_; have HB := n7_; have BK276 := n8_; have GE276 := n10_; have NB269_276 := n23_; have NB276_269 := n24_; clear n6_ n7_ n8_ n10_ n23_ n24_; clear hb hbox hg; have hnb219 := NB276_269.out; have hnc219 := NB269_276.out; have hcz220_0 : w212.cell? ⟨gb276, 0, none⟩ = some (.int .i64 0) := (blk_cell BK276.out 0).trans rfl; have hcz220_1 : w212.cell? ⟨gb276, 1, none⟩ = some (.int .i64 0) := (blk_cell BK276.out 1).trans rfl; have hfz220_0 := blk_frozen BK276.out 0; have hfz220_1 := blk_frozen BK276.out 1) | ((with_reducible refine gate_callee (f := 42) rfl ?_); refine goesL_ (some 152) rfl rfl Try.func42 (by kernel_rfl) rfl #[.agg #[.int .i64 t273, .int .i64 t274], .int .i64 t275] rfl (by (try simp only [List.map_toArray, List.map_cons, List.map_nil]); first | done | rfl | (simp only [List.length_drop, List.length_take]; rfl)) ?_; (with_reducible refine (impl_Widen.calls t273 t274 t275 t277 t278 true _ A173.out).mono ?_); rintro e w221 ⟨rfl, hb⟩; refine ⟨_, rfl, ?_⟩; have n6_ := Aside0.mk (blk_below (g := gb269) (o := .cells #[.int .i64 t266, .int .i64 t267] 54 (0, 0)) (by (with_reducible repeat (first | refine blk_drewN ?_ _ | refine blk_drew ?_ | refine blk_alloc ?_ _)); refine blk_far ?_ NB269_276.out _; (with_reducible repeat (first | refine blk_drewN ?_ _ | refine blk_drew ?_ | refine blk_alloc ?_ _)); refine blk_far ?_ NB269_276.out _; (with_reducible repeat (first | refine blk_drewN ?_ _ | refine blk_drew ?_ | refine blk_alloc ?_ _)); exact BK269.out) hb); have n7_ := Aside0.mk (blk_below (g := gb276) (o := .cells #[.int .i64 t273, .int .i64 t274] 54 (0, 0)) (by (with_reducible repeat (first | refine blk_drewN ?_ _ | refine blk_drew ?_ | refine blk_alloc ?_ _)); refine blk_put (cs := #[.int .i64 t273, .int .i64 0]) ?_ 1 _ rfl; (with_reducible repeat (first | refine blk_drewN ?_ _ | refine blk_drew ?_ | refine blk_alloc ?_ _)); refine blk_put (cs := #[.int .i64 0, .int .i64 0]) ?_ 0 _ rfl; (with_reducible repeat (first | refine blk_drewN ?_ _ | refine blk_drew ?_ | refine blk_alloc ?_ _)); exact BK276.out) hb); have n8_ := Aside0.mk (below_step (by repeat (first | (with_reducible first | exact HB.out | apply below_alloc | apply pw_below_drewN | apply below_drew1 | refine below_set ?_ GE276.out) | exact HB.out)) hb); clear BK269; clear BK276; clear HB; have BK269 := n6_; have BK276 := n7_; have HB := n8_; clear n6_ n7_ n8_; (try clear hb); (try clear hb2); (try clear hk); (try clear hi)) | ((with_reducible refine gate_dst (N := 17) rfl ?_); refine box_event ?hg (N := 17) ?hd (cs := #[.int .i64 0, .int .i64 0]) (t := 54) ?hr ?_; (case hd => rfl); (case hg => rfl); (case hr => first | (go_simp; done) | (go_simp; rfl)); intro gb280 hg w222 hbox hb; have n6_ := qcb hb BK269; have n7_ := qcb hb BK276; have n8_ := Aside0.mk (below_step (by repeat (first | (with_reducible first | exact HB.out | apply below_alloc | apply pw_below_drewN | apply below_drew1) | exact HB.out)) hb); have n9_ := Aside0.mk (hbox); have n11_ := Aside0.mk ((by rw [hg]; exact (below_size (by repeat (first | (with_reducible first | exact HB.out | apply below_alloc | apply pw_below_drewN | apply below_drew1) | exact HB.out))) : w.heap.size ≤ gb280)); have n24_ := Aside0.mk ((by rw [hg]; exact Nat.ne_of_lt (blk_lt (g := gb269) (o := .cells #[.int .i64 t266, .int .i64 t267] 54 (0, 0)) (by (with_reducible repeat (first | refine blk_drewN ?_ _ | refine blk_drew ?_ | refine blk_alloc ?_ _)); exact BK269.out)) : gb269 ≠ gb280)); have n25_ := Aside0.mk ((by rw [hg]; exact Nat.ne_of_gt (blk_lt (g := gb269) (o := .cells #[.int .i64 t266, .int .i64 t267] 54 (0, 0)) (by (with_reducible repeat (first | refine blk_drewN ?_ _ | refine blk_drew ?_ | refine blk_alloc ?_ _)); exact BK269.out)) : gb280 ≠ gb269)); have n26_ := Aside0.mk ((by rw [hg]; exact Nat.ne_of_lt (blk_lt (g := gb276) (o := .cells #[.int .i64 t273, .int .i64 t274] 54 (0, 0)) (by (with_reducible repeat (first | refine blk_drewN ?_ _ | refine blk_drew ?_ | refine blk_alloc ?_ _)); exact BK276.out)) : gb276 ≠ gb280)); have n27_ := Aside0.mk ((by rw [hg]; exact Nat.ne_of_gt (blk_lt (g := gb276) (o := .cells #[.int .i64 t273, .int .i64 t274] 54 (0, 0)) (by (with_reducible repeat (first | refine blk_drewN ?_ _ | refine blk_drew ?_ | refine blk_alloc ?_ _)); exact BK276.out)) : gb280 ≠ gb276)); clear BK269; clear BK276; clear HB; have BK269 := n6_; have BK276 := n7_; have HB := n8_; have BK280 := n9_; have GE280 := n11_; have NB269_280 := n24_; have NB280_269 := n25_; have NB276_280 := n26_; have NB280_276 := n27_; clear n6_ n7_ n8_ n9_ n11_ n24_ n25_ n26_ n27_; clear hb hbox hg; have hnb229 := NB280_269.out; have hnc229 := NB269_280.out; have hnb230 := NB280_276.out; have hnc230 := NB276_280.out; have hcz231_0 : w222.cell? ⟨gb280, 0, none⟩ = some (.int .i64 0) := (blk_cell BK280.out 0).trans rfl; have hcz231_1 : w222.cell? ⟨gb280, 1, none⟩ = some (.int .i64 0) := (blk_cell BK280.out 1).trans rfl; have hfz231_0 := blk_frozen BK280.out 0; have hfz231_1 := blk_frozen BK280.out 1))
                have n6_ := qff w222 (.int .i64 t277) (.int .i64 t278) NB269_280 BK269
                have n7_ := qff w222 (.int .i64 t277) (.int .i64 t278) NB276_280 BK276
                have n8_ : Aside0 (((w222.setCell ⟨gb280, 0, none⟩ (.int .i64 t277)).setCell ⟨gb280, 1, none⟩ (.int .i64 t278)).heap[gb280]? = some (.cells #[.int .i64 t277, .int .i64 t278] 54 (0, 0))) := ⟨by (with_reducible repeat (first | refine blk_drewN ?_ _ | refine blk_drew ?_ | refine blk_alloc ?_ _)); refine blk_put (cs := #[.int .i64 t277, .int .i64 0]) ?_ 1 _ rfl; (with_reducible repeat (first | refine blk_drewN ?_ _ | refine blk_drew ?_ | refine blk_alloc ?_ _)); refine blk_put (cs := #[.int .i64 0, .int .i64 0]) ?_ 0 _ rfl; (with_reducible repeat (first | refine blk_drewN ?_ _ | refine blk_drew ?_ | refine blk_alloc ?_ _)); exact BK280.out⟩
                have n9_ : Aside0 (Below w.heap.size w ((w222.setCell ⟨gb280, 0, none⟩ (.int .i64 t277)).setCell ⟨gb280, 1, none⟩ (.int .i64 t278))) := ⟨by repeat (first | (with_reducible first | exact HB.out | apply below_alloc | apply pw_below_drewN | apply below_drew1 | refine below_set ?_ GE280.out) | exact HB.out)⟩
                (try clear BK269); (try clear BK276)
                (try clear BK280); (try clear HB)
                generalize ((w222.setCell ⟨gb280, 0, none⟩ (.int .i64 t277)).setCell ⟨gb280, 1, none⟩ (.int .i64 t278)) = w232 at n6_ n7_ n8_ n9_ ⊢
                have BK269 := n6_
                have BK276 := n7_
                have BK280 := n8_
                have HB := n9_
                clear n6_ n7_ n8_ n9_
                have n6_ := Aside0.mk (blk_drew BK269.out)
                have n7_ := Aside0.mk (blk_drew BK276.out)
                have n8_ := Aside0.mk (blk_drew BK280.out)
                have n9_ := Aside0.mk (below_drew1 HB.out)
                clear BK269; clear BK276
                clear BK280; clear HB
                have BK269 := n6_
                have BK276 := n7_
                have BK280 := n8_
                have HB := n9_
                clear n6_ n7_ n8_ n9_
                refine start_ (n := 25) (S := fun w' => w'.cell? ⟨gb280, 0, none⟩ = some (.int .i64 t277) ∧ w'.cell? ⟨gb280, 1, none⟩ = some (.int .i64 t278) ∧ w'.cell? ⟨gb276, 0, none⟩ = some (.int .i64 t273) ∧ w'.cell? ⟨gb276, 1, none⟩ = some (.int .i64 t274) ∧ w'.cell? ⟨gb269, 0, none⟩ = some (.int .i64 t266) ∧ w'.cell? ⟨gb269, 1, none⟩ = some (.int .i64 t267)) (ds := []) qq102 (by kernel_rfl) rfl rfl ⟨(blk_cell BK280.out 0).trans rfl, (blk_cell BK280.out 1).trans rfl, (blk_cell BK276.out 0).trans rfl, (blk_cell BK276.out 1).trans rfl, (blk_cell BK269.out 0).trans rfl, (blk_cell BK269.out 1).trans rfl⟩ (fun hHeld => ?_); refine with_tabW laws_FnSpans.tab19 laws_FnSpans.bits19 (fun HT_ HW_ => ?_)
                generalize w232.drew = w233 at BK269 BK276 BK280 HB hHeld ⊢
                refine pure_ (i := 0) (N := some 155) (v := ?_) (a' := ?_) qq103 rfl rfl (any_of HT_.out (by kernel_rfl)) (fun _ _ _ h => h) (Or.inl ⟨by rfl, ?_⟩) ?_ ?_
                rotate_left; focus (intro w'; go_simp; with_reducible rfl)
                rotate_left; focus (simp only [Act.put, sA, sB, sC, i64_w, i32_w]; rfl)
                refine pure_ (i := 1) (N := some 156) (v := ?_) (a' := ?_) qq104 rfl rfl (any_of HT_.out (by kernel_rfl)) (fun _ _ _ h => h) (Or.inl ⟨by rfl, ?_⟩) ?_ ?_
                rotate_left; focus (intro w'; go_simp; with_reducible rfl)
                rotate_left; focus (simp only [Act.put, sA, sB, sC, i64_w, i32_w]; rfl)
                refine pure_ (i := 2) (N := some 157) (v := ?_) (a' := ?_) qq105 rfl rfl (any_of HT_.out (by kernel_rfl)) (fun _ _ _ h => h) (Or.inl ⟨by rfl, ?_⟩) ?_ ?_
                rotate_left; focus (intro w'; go_simp; with_reducible rfl)
                rotate_left; focus (simp only [Act.put, sA, sB, sC, i64_w, i32_w]; rfl)
                refine take_ (i := 3) (N := some 158) (v := ?_) (a' := ?_) qq106 rfl rfl (take_ofW HT_.out HW_.out (by kernel_rfl)) (fun _ _ _ h => h) (Or.inl ⟨by rfl, ?_⟩) hHeld ?_ ?_
                rotate_left; focus (rintro w' ⟨s0, s1, s2, s3, s4, s5⟩; go_simp; with_reducible rfl)
                rotate_left; focus (simp only [Act.put, sA, sB, sC, i64_w, i32_w]; rfl)
                refine one_ (i := 4) (N := some 159) qq107 rfl rfl (one_of HT_.out (by kernel_rfl)) (by decide) (fun K hK => ?_)
                refine goes_ Try.func43 (by kernel_rfl) rfl #[.agg #[.int .i64 t277, .int .i64 t278]] (by rfl) rfl rfl (by (try simp only [List.map_toArray, List.map_cons, List.map_nil]); first | done | rfl | (simp only [List.length_drop, List.length_take]; rfl)) ?_
                with_reducible refine (impl_IsSpan.calls t277 t278 true _ A175.out).mono ?_
                rintro e w234 ⟨rfl, hb⟩
                refine ⟨_, rfl, ?_⟩
                have n6_ := qcb hb BK269
                have n7_ := qcb hb BK276
                have n8_ := qcb hb BK280
                have n9_ := Aside0.mk (below_step (by repeat (first | (with_reducible first | exact HB.out | apply below_alloc | apply pw_below_drewN | apply below_drew1) | exact HB.out)) hb)
                clear BK269; clear BK276
                clear BK280; clear HB
                have BK269 := n6_
                have BK276 := n7_
                have BK280 := n8_
                have HB := n9_
                clear n6_ n7_ n8_ n9_; (try clear hb)
                (try clear hb2); (try clear hk); (try clear hi)
                refine hK.out _ _ ⟨(blk_cell BK280.out 0).trans rfl, (blk_cell BK280.out 1).trans rfl, (blk_cell BK276.out 0).trans rfl, (blk_cell BK276.out 1).trans rfl, (blk_cell BK269.out 0).trans rfl, (blk_cell BK269.out 1).trans rfl⟩ (fun hHeld => ?_)
                clear hK K
                refine norm_ (a' := ?_) ?_ ?_
                rotate_left; focus (show Act.put _ (some 159) _ = _; simp only [Act.put, sA, sB, sC, i64_w, i32_w]; rfl)
                refine pure_ (i := 5) (N := some 160) (v := ?_) (a' := ?_) qq108 rfl rfl (any_of HT_.out (by kernel_rfl)) (fun _ _ _ h => h) (Or.inl ⟨by rfl, ?_⟩) ?_ ?_
                rotate_left; focus (intro w'; go_simp; with_reducible rfl)
                rotate_left; focus (simp only [Act.put, sA, sB, sC, i64_w, i32_w]; rfl)
                refine take_ (i := 6) (N := some 161) (v := ?_) (a' := ?_) qq109 rfl rfl (take_ofW HT_.out HW_.out (by kernel_rfl)) (fun _ _ _ h => h) (Or.inl ⟨by rfl, ?_⟩) hHeld ?_ ?_
                rotate_left; focus (rintro w' ⟨s0, s1, s2, s3, s4, s5⟩; go_simp; with_reducible rfl)
                rotate_left; focus (simp only [Act.put, sA, sB, sC, i64_w, i32_w]; rfl)
                refine take_ (i := 8) (N := some 163) (v := ?_) (a' := ?_) qq110 rfl rfl (take_ofW HT_.out HW_.out (by kernel_rfl)) (fun _ _ _ h => h) (Or.inl ⟨by rfl, ?_⟩) hHeld ?_ ?_
                rotate_left; focus (rintro w' ⟨s0, s1, s2, s3, s4, s5⟩; go_simp; with_reducible rfl)
                rotate_left; focus (simp only [Act.put, sA, sB, sC, i64_w, i32_w]; rfl)
                refine one_ (i := 7) (N := some 162) qq111 rfl rfl (one_of HT_.out (by kernel_rfl)) (by decide) (fun K hK => ?_)
                refine goes_ Try.func38 (by kernel_rfl) rfl #[.agg #[.int .i64 t277, .int .i64 t278]] (by rfl) rfl rfl (by (try simp only [List.map_toArray, List.map_cons, List.map_nil]); first | done | rfl | (simp only [List.length_drop, List.length_take]; rfl)) ?_
                with_reducible refine (impl_Hours.calls t277 t278 t282 _ A177.out).mono ?_
                rintro e w235 ⟨rfl, hb⟩
                refine ⟨_, rfl, ?_⟩
                have n6_ := qcb hb BK269
                have n7_ := qcb hb BK276
                have n8_ := qcb hb BK280
                have n9_ := Aside0.mk (below_step (by repeat (first | (with_reducible first | exact HB.out | apply below_alloc | apply pw_below_drewN | apply below_drew1) | exact HB.out)) hb)
                clear BK269; clear BK276
                clear BK280; clear HB
                have BK269 := n6_
                have BK276 := n7_
                have BK280 := n8_
                have HB := n9_
                clear n6_ n7_ n8_ n9_; (try clear hb)
                (try clear hb2); (try clear hk); (try clear hi)
                refine hK.out _ _ ⟨(blk_cell BK280.out 0).trans rfl, (blk_cell BK280.out 1).trans rfl, (blk_cell BK276.out 0).trans rfl, (blk_cell BK276.out 1).trans rfl, (blk_cell BK269.out 0).trans rfl, (blk_cell BK269.out 1).trans rfl⟩ (fun hHeld => ?_)
                clear hK K
                refine norm_ (a' := ?_) ?_ ?_
                rotate_left; focus (show Act.put _ (some 162) _ = _; simp only [Act.put, sA, sB, sC, i64_w, i32_w]; rfl)
                refine one_ (i := 9) (N := some 164) qq112 rfl rfl (one_of HT_.out (by kernel_rfl)) (by decide) (fun K hK => ?_)
                refine goes_ Try.func38 (by kernel_rfl) rfl #[.agg #[.int .i64 t273, .int .i64 t274]] (by rfl) rfl rfl (by (try simp only [List.map_toArray, List.map_cons, List.map_nil]); first | done | rfl | (simp only [List.length_drop, List.length_take]; rfl)) ?_
                with_reducible refine (impl_Hours.calls t273 t274 t283 _ A178.out).mono ?_
                rintro e w236 ⟨rfl, hb⟩
                refine ⟨_, rfl, ?_⟩
                have n6_ := qcb hb BK269
                have n7_ := qcb hb BK276
                have n8_ := qcb hb BK280
                have n9_ := Aside0.mk (below_step (by repeat (first | (with_reducible first | exact HB.out | apply below_alloc | apply pw_below_drewN | apply below_drew1) | exact HB.out)) hb)
                clear BK269; clear BK276
                clear BK280; clear HB
                have BK269 := n6_
                have BK276 := n7_
                have BK280 := n8_
                have HB := n9_
                clear n6_ n7_ n8_ n9_; (try clear hb)
                (try clear hb2); (try clear hk); (try clear hi)
                refine hK.out _ _ ⟨(blk_cell BK280.out 0).trans rfl, (blk_cell BK280.out 1).trans rfl, (blk_cell BK276.out 0).trans rfl, (blk_cell BK276.out 1).trans rfl, (blk_cell BK269.out 0).trans rfl, (blk_cell BK269.out 1).trans rfl⟩ (fun hHeld => ?_)
                clear hK K
                refine norm_ (a' := ?_) ?_ ?_
                rotate_left; focus (show Act.put _ (some 164) _ = _; simp only [Act.put, sA, sB, sC, i64_w, i32_w]; rfl)
                refine pure_ (i := 10) (N := some 165) (v := ?_) (a' := ?_) qq113 rfl rfl (any_of HT_.out (by kernel_rfl)) (fun _ _ _ h => h) (Or.inl ⟨by rfl, ?_⟩) ?_ ?_
                rotate_left; focus (intro w'; go_simp; with_reducible rfl)
                rotate_left; focus (simp only [Act.put, sA, sB, sC, i64_w, i32_w]; rfl)
                refine pure_ (i := 11) (N := some 166) (v := ?_) (a' := ?_) qq114 rfl rfl (any_of HT_.out (by kernel_rfl)) (fun _ _ _ h => h) (Or.inl ⟨by rfl, ?_⟩) ?_ ?_
                rotate_left; focus (intro w'; go_simp; with_reducible rfl)
                rotate_left; focus (simp only [Act.put, sA, sB, sC, i64_w, i32_w]; rfl)
                refine pure_ (i := 12) (N := some 167) (v := ?_) (a' := ?_) qq115 rfl rfl (any_of HT_.out (by kernel_rfl)) (fun _ _ _ h => h) (Or.inl ⟨by rfl, ?_⟩) ?_ ?_
                rotate_left; focus (intro w'; go_simp; with_reducible rfl)
                rotate_left; focus (simp only [Act.put, sA, sB, sC, i64_w, i32_w]; rfl)
                refine pure_ (i := 13) (N := some 168) (v := ?_) (a' := ?_) qq116 rfl rfl (any_of HT_.out (by kernel_rfl)) (fun _ _ _ h => h) (Or.inl ⟨by rfl, ?_⟩) ?_ ?_
                rotate_left; focus (intro w'; go_simp; with_reducible rfl)
                rotate_left; focus (simp only [Act.put, sA, sB, sC, i64_w, i32_w]; rfl)
                refine pure_ (i := 15) (N := some 170) (v := ?_) (a' := ?_) qq117 rfl rfl (any_of HT_.out (by kernel_rfl)) (fun _ _ _ h => h) (Or.inl ⟨by rfl, ?_⟩) ?_ ?_
                rotate_left; focus (intro w'; go_simp; with_reducible rfl)
                rotate_left; focus (simp only [Act.put, sA, sB, sC, i64_w, i32_w]; rfl)
                refine take_ (i := 14) (N := some 169) (v := ?_) (a' := ?_) qq118 rfl rfl (take_ofW HT_.out HW_.out (by kernel_rfl)) (fun _ _ _ h => h) (Or.inl ⟨by rfl, ?_⟩) hHeld ?_ ?_
                rotate_left; focus (rintro w' ⟨s0, s1, s2, s3, s4, s5⟩; go_simp; with_reducible rfl)
                rotate_left; focus (simp only [Act.put, sA, sB, sC, i64_w, i32_w]; rfl)
                refine one_ (i := 16) (N := some 171) qq119 rfl rfl (one_of HT_.out (by kernel_rfl)) (by decide) (fun K hK => ?_)
                refine goes_ Try.func39 (by kernel_rfl) rfl #[.agg #[.int .i64 t266, .int .i64 t267], .int .i64 t268] (by rfl) rfl rfl (by (try simp only [List.map_toArray, List.map_cons, List.map_nil]); first | done | rfl | (simp only [List.length_drop, List.length_take]; rfl)) ?_
                with_reducible refine (impl_Holds.calls t266 t267 t268 false _ A180.out).mono ?_
                rintro e w237 ⟨rfl, hb⟩
                refine ⟨_, rfl, ?_⟩
                have n6_ := qcb hb BK269
                have n7_ := qcb hb BK276
                have n8_ := qcb hb BK280
                have n9_ := Aside0.mk (below_step (by repeat (first | (with_reducible first | exact HB.out | apply below_alloc | apply pw_below_drewN | apply below_drew1) | exact HB.out)) hb)
                clear BK269; clear BK276
                clear BK280; clear HB
                have BK269 := n6_
                have BK276 := n7_
                have BK280 := n8_
                have HB := n9_
                clear n6_ n7_ n8_ n9_; (try clear hb)
                (try clear hb2); (try clear hk); (try clear hi)
                refine hK.out _ _ ⟨(blk_cell BK280.out 0).trans rfl, (blk_cell BK280.out 1).trans rfl, (blk_cell BK276.out 0).trans rfl, (blk_cell BK276.out 1).trans rfl, (blk_cell BK269.out 0).trans rfl, (blk_cell BK269.out 1).trans rfl⟩ (fun hHeld => ?_)
                clear hK K
                refine norm_ (a' := ?_) ?_ ?_
                rotate_left; focus (show Act.put _ (some 171) _ = _; simp only [Act.put, sA, sB, sC, i64_w, i32_w]; rfl)
                refine pure_ (i := 17) (N := some 172) (v := ?_) (a' := ?_) qq120 rfl rfl (any_of HT_.out (by kernel_rfl)) (fun _ _ _ h => h) (Or.inl ⟨by rfl, ?_⟩) ?_ ?_
                rotate_left; focus (intro w'; go_simp; with_reducible rfl)
                rotate_left; focus (simp only [Act.put, sA, sB, sC, i64_w, i32_w]; rfl)
                refine pure_ (i := 18) (N := some 173) (v := ?_) (a' := ?_) qq121 rfl rfl (any_of HT_.out (by kernel_rfl)) (fun _ _ _ h => h) (Or.inl ⟨by rfl, ?_⟩) ?_ ?_
                rotate_left; focus (intro w'; go_simp; with_reducible rfl)
                rotate_left; focus (simp only [Act.put, sA, sB, sC, i64_w, i32_w]; rfl)
                refine pure_ (i := 19) (N := some 174) (v := undef) (a' := ?_) qq122 rfl rfl (any_of HT_.out (by kernel_rfl)) (fun _ _ _ h => h) (Or.inr ⟨by rfl, rfl⟩) ?_ ?_
                rotate_left; focus (simp only [Act.put, sA, sB, sC, i64_w, i32_w]; rfl)
                refine pure_ (i := 20) (N := some 175) (v := undef) (a' := ?_) qq123 rfl rfl (any_of HT_.out (by kernel_rfl)) (fun _ _ _ h => h) (Or.inr ⟨by rfl, rfl⟩) ?_ ?_
                rotate_left; focus (simp only [Act.put, sA, sB, sC, i64_w, i32_w]; rfl)
                refine pure_ (i := 21) (N := some 176) (v := undef) (a' := ?_) qq124 rfl rfl (any_of HT_.out (by kernel_rfl)) (fun _ _ _ h => h) (Or.inr ⟨by rfl, rfl⟩) ?_ ?_
                rotate_left; focus (simp only [Act.put, sA, sB, sC, i64_w, i32_w]; rfl)
                refine pure_ (i := 22) (N := some 177) (v := ?_) (a' := ?_) qq125 rfl rfl (any_of HT_.out (by kernel_rfl)) (fun _ _ _ h => h) (Or.inl ⟨by rfl, ?_⟩) ?_ ?_
                rotate_left; focus (intro w'; go_simp; with_reducible rfl)
                rotate_left; focus (simp only [Act.put, sA, sB, sC, i64_w, i32_w]; rfl)
                refine pure_ (i := 23) (N := some 178) (v := ?_) (a' := ?_) qq126 rfl rfl (any_of HT_.out (by kernel_rfl)) (fun _ _ _ h => h) (Or.inl ⟨by rfl, ?_⟩) ?_ ?_
                rotate_left; focus (intro w'; go_simp; with_reducible rfl)
                rotate_left; focus (simp only [Act.put, sA, sB, sC, i64_w, i32_w]; rfl)
                refine pure_ (i := 24) (N := some 2) (v := ?_) (a' := ?_) qq127 rfl rfl (any_of HT_.out (by kernel_rfl)) (fun _ _ _ h => h) (Or.inl ⟨by rfl, ?_⟩) ?_ ?_
                rotate_left; focus (intro w'; go_simp; with_reducible rfl)
                rotate_left; focus (simp only [Act.put, sA, sB, sC, i64_w, i32_w]; rfl)
                refine done_ (done_of HT_.out (by kernel_rfl)) ?_
                try go_wp2
                go_ret
                exact ⟨by first | rfl | (simp [errW_none, errW_some] <;> rfl) | (simp [*, errW_none, errW_some] <;> rfl), by repeat (first | (with_reducible first | exact HB.out | apply below_alloc | apply pw_below_drewN | apply below_drew1) | exact HB.out)⟩
              ·rw [if_neg c179] at H
               have c179b0 : decide (t283 ≤ t282) = false := decide_eq_false c179
               clear c179
               exact absurd (Option.some.inj H) (by decide)
             ·replace c176 := Bool.eq_false_iff.mpr c176
              subst c176
              have H1 : (some false) = some true := by rw [if_neg (show ¬ (false = true) by decide)] at H; exact H
              clear H
              have H := H1
              clear H1
              exact absurd (Option.some.inj H) (by decide)
            ·replace c174 := Bool.eq_false_iff.mpr c174
             subst c174
             have H1 : ((impl_Holds.f t266 t267 t268).bind fun t286 => (if t286 = true then ((impl_Hours.f t266 t267).bind fun t287 => (some (decide (t287 > 0)))) else (some true))) = some true := by rw [if_neg (show ¬ (false = true) by decide)] at H; exact H
             clear H
             have H := H1
             clear H1
             replace H := Option.bind_eq_some_iff.mp H
             obtain ⟨t286, A2880, H⟩ := H
             replace H : (if t286 = true then ((impl_Hours.f t266 t267).bind fun t287 => (some (decide (t287 > 0)))) else (some true)) = some true := H
             have A288 := Aside0.mk A2880
             clear A2880
             by_cases c289 : t286 = true
             ·subst c289
              have H1 : ((impl_Hours.f t266 t267).bind fun t287 => (some (decide (t287 > 0)))) = some true := by rw [if_pos rfl] at H; exact H
              clear H
              have H := H1
              clear H1
              replace H := Option.bind_eq_some_iff.mp H
              obtain ⟨t287, A2900, H⟩ := H
              replace H : (some (decide (t287 > 0))) = some true := H
              have A290 := Aside0.mk A2900
              clear A2900
              have hd_ := Option.some.inj H
              try go_wp2_with (first | ((with_reducible refine gate_callee (f := 41) rfl ?_); refine goesL_ (some 146) rfl rfl Try.func41 (by kernel_rfl) rfl #[.slice A0 l0.length c0] rfl (by (try simp only [List.map_toArray, List.map_cons, List.map_nil]); first | done | rfl | (simp only [List.length_drop, List.length_take]; rfl)) ?_; (with_reducible refine (spec_DrawWiden.calls kj142 _ _ l0 t273 t274 t275 _ ?side1 ?side2 A172.out).mono ?_); (case side1 => repeat (first | exact (Kd.C_below HR0.out HB.out) | (with_reducible refine Kd.C_alloc ?_ _) | (with_reducible refine Kd.C_drewN ?_ _) | (with_reducible refine Kd.C_drew ?_))); (case side2 => exact HC0.out); rintro e w291 ⟨rfl, hb⟩; refine ⟨_, rfl, ?_⟩; have n6_ := qcb hb BK269; have n7_ := Aside0.mk (below_step (by repeat (first | (with_reducible first | exact HB.out | apply below_alloc | apply pw_below_drewN | apply below_drew1) | exact HB.out)) hb); clear BK237; clear BK238; clear BK242; clear BK269; clear HB; have BK269 := n6_; have HB := n7_; clear n6_ n7_; (try clear hb); (try clear hb2); (try clear hk); (try clear hi)) | ((with_reducible refine gate_dst (N := 15) rfl ?_); refine box_event ?hg (N := 15) ?hd (cs := #[.int .i64 0, .int .i64 0]) (t := 54) ?hr ?_; (case hd => rfl); (case hg => rfl); (case hr => first | (go_simp; done) | (go_simp; rfl)); intro gb276 hg w292 hbox hb; have n6_ := qcb hb BK269; have n7_ := Aside0.mk (below_step (by repeat (first | (with_reducible first | exact HB.out | apply below_alloc | apply pw_below_drewN | apply below_drew1) | exact HB.out)) hb); have n8_ := Aside0.mk (hbox); have n10_ := Aside0.mk ((by rw [hg]; exact (below_size (by repeat (first | (with_reducible first | exact HB.out | apply below_alloc | apply pw_below_drewN | apply below_drew1) | exact HB.out))) : w.heap.size ≤ gb276)); have n23_ := Aside0.mk ((by rw [hg]; exact Nat.ne_of_lt (blk_lt (g := gb269) (o := .cells #[.int .i64 t266, .int .i64 t267] 54 (0, 0)) (by (with_reducible repeat (first | refine blk_drewN ?_ _ | refine blk_drew ?_ | refine blk_alloc ?_ _)); exact BK269.out)) : gb269 ≠ gb276)); have n24_ := Aside0.mk ((by rw [hg]; exact Nat.ne_of_gt (blk_lt (g := gb269) (o := .cells #[.int .i64 t266, .int .i64 t267] 54 (0, 0)) (by (with_reducible repeat (first | refine blk_drewN ?_ _ | refine blk_drew ?_ | refine blk_alloc ?_ _)); exact BK269.out)) : gb276 ≠ gb269)); clear BK269; clear HB; have BK269 := n6_; have HB := n7_; have BK276 := n8_; have GE276 := n10_; have NB269_276 := n23_; have NB276_269 := n24_; clear n6_ n7_ n8_ n10_ n23_ n24_; clear hb hbox hg; have hnb299 := NB276_269.out; have hnc299 := NB269_276.out; have hcz300_0 : w292.cell? ⟨gb276, 0, none⟩ = some (.int .i64 0) := (blk_cell BK276.out 0).trans rfl; have hcz300_1 : w292.cell? ⟨gb276, 1, none⟩ = some (.int .i64 0) := (blk_cell BK276.out 1).trans rfl; have hfz300_0 := blk_frozen BK276.out 0; have hfz300_1 := blk_frozen BK276.out 1) | ((with_reducible refine gate_callee (f := 42) rfl ?_); refine goesL_ (some 152) rfl rfl Try.func42 (by kernel_rfl) rfl #[.agg #[.int .i64 t273, .int .i64 t274], .int .i64 t275] rfl (by (try simp only [List.map_toArray, List.map_cons, List.map_nil]); first | done | rfl | (simp only [List.length_drop, List.length_take]; rfl)) ?_; (with_reducible refine (impl_Widen.calls t273 t274 t275 t277 t278 false _ A173.out).mono ?_); rintro e w301 ⟨rfl, hb⟩; refine ⟨_, rfl, ?_⟩; have n6_ := Aside0.mk (blk_below (g := gb269) (o := .cells #[.int .i64 t266, .int .i64 t267] 54 (0, 0)) (by (with_reducible repeat (first | refine blk_drewN ?_ _ | refine blk_drew ?_ | refine blk_alloc ?_ _)); refine blk_far ?_ NB269_276.out _; (with_reducible repeat (first | refine blk_drewN ?_ _ | refine blk_drew ?_ | refine blk_alloc ?_ _)); refine blk_far ?_ NB269_276.out _; (with_reducible repeat (first | refine blk_drewN ?_ _ | refine blk_drew ?_ | refine blk_alloc ?_ _)); exact BK269.out) hb); have n8_ := Aside0.mk (below_step (by repeat (first | (with_reducible first | exact HB.out | apply below_alloc | apply pw_below_drewN | apply below_drew1 | refine below_set ?_ GE276.out) | exact HB.out)) hb); clear BK269; clear BK276; clear HB; have BK269 := n6_; have HB := n8_; clear n6_ n8_; (try clear hb); (try clear hb2); (try clear hk); (try clear hi)) | ((with_reducible refine gate_dst (N := 17) rfl ?_); refine box_event ?hg (N := 17) ?hd (cs := #[.int .i64 0, .int .i64 0]) (t := 54) ?hr ?_; (case hd => rfl); (case hg => rfl); (case hr => first | (go_simp; done) | (go_simp; rfl)); intro gb280 hg w302 hbox hb; have n6_ := qcb hb BK269; have n8_ := Aside0.mk (below_step (by repeat (first | (with_reducible first | exact HB.out | apply below_alloc | apply pw_below_drewN | apply below_drew1) | exact HB.out)) hb); have n9_ := Aside0.mk (hbox); have n11_ := Aside0.mk ((by rw [hg]; exact (below_size (by repeat (first | (with_reducible first | exact HB.out | apply below_alloc | apply pw_below_drewN | apply below_drew1) | exact HB.out))) : w.heap.size ≤ gb280)); have n24_ := Aside0.mk ((by rw [hg]; exact Nat.ne_of_lt (blk_lt (g := gb269) (o := .cells #[.int .i64 t266, .int .i64 t267] 54 (0, 0)) (by (with_reducible repeat (first | refine blk_drewN ?_ _ | refine blk_drew ?_ | refine blk_alloc ?_ _)); exact BK269.out)) : gb269 ≠ gb280)); have n25_ := Aside0.mk ((by rw [hg]; exact Nat.ne_of_gt (blk_lt (g := gb269) (o := .cells #[.int .i64 t266, .int .i64 t267] 54 (0, 0)) (by (with_reducible repeat (first | refine blk_drewN ?_ _ | refine blk_drew ?_ | refine blk_alloc ?_ _)); exact BK269.out)) : gb280 ≠ gb269)); clear BK269; clear HB; have BK269 := n6_; have HB := n8_; have BK280 := n9_; have GE280 := n11_; have NB269_280 := n24_; have NB280_269 := n25_; clear n6_ n8_ n9_ n11_ n24_ n25_; clear hb hbox hg; have hnb309 := NB280_269.out; have hnc309 := NB269_280.out; have hcz311_0 : w302.cell? ⟨gb280, 0, none⟩ = some (.int .i64 0) := (blk_cell BK280.out 0).trans rfl; have hcz311_1 : w302.cell? ⟨gb280, 1, none⟩ = some (.int .i64 0) := (blk_cell BK280.out 1).trans rfl; have hfz311_0 := blk_frozen BK280.out 0; have hfz311_1 := blk_frozen BK280.out 1))
              have n6_ := qff w302 (.int .i64 t277) (.int .i64 t278) NB269_280 BK269
              have n9_ : Aside0 (Below w.heap.size w ((w302.setCell ⟨gb280, 0, none⟩ (.int .i64 t277)).setCell ⟨gb280, 1, none⟩ (.int .i64 t278))) := ⟨by repeat (first | (with_reducible first | exact HB.out | apply below_alloc | apply pw_below_drewN | apply below_drew1 | refine below_set ?_ GE280.out) | exact HB.out)⟩
              (try clear BK269)
              (try clear BK280); (try clear HB)
              generalize ((w302.setCell ⟨gb280, 0, none⟩ (.int .i64 t277)).setCell ⟨gb280, 1, none⟩ (.int .i64 t278)) = w312 at n6_ n9_ ⊢
              have BK269 := n6_
              have HB := n9_
              clear n6_ n9_
              have n6_ := Aside0.mk (blk_drew BK269.out)
              have n9_ := Aside0.mk (below_drew1 HB.out)
              clear BK269
              clear HB
              have BK269 := n6_
              have HB := n9_
              clear n6_ n9_
              refine start_ (n := 25) (S := fun w' => w'.cell? ⟨gb269, 0, none⟩ = some (.int .i64 t266) ∧ w'.cell? ⟨gb269, 1, none⟩ = some (.int .i64 t267)) (ds := []) qq102 (by kernel_rfl) rfl rfl ⟨(blk_cell BK269.out 0).trans rfl, (blk_cell BK269.out 1).trans rfl⟩ (fun hHeld => ?_); refine with_tabW laws_FnSpans.tab19 laws_FnSpans.bits19 (fun HT_ HW_ => ?_)
              generalize w312.drew = w313 at BK269 HB hHeld ⊢
              refine pure_ (i := 0) (N := some 155) (v := ?_) (a' := ?_) qq103 rfl rfl (any_of HT_.out (by kernel_rfl)) (fun _ _ _ h => h) (Or.inl ⟨by rfl, ?_⟩) ?_ ?_
              rotate_left; focus (intro w'; go_simp; with_reducible rfl)
              rotate_left; focus (simp only [Act.put, sA, sB, sC, i64_w, i32_w]; rfl)
              refine pure_ (i := 1) (N := some 156) (v := ?_) (a' := ?_) qq104 rfl rfl (any_of HT_.out (by kernel_rfl)) (fun _ _ _ h => h) (Or.inl ⟨by rfl, ?_⟩) ?_ ?_
              rotate_left; focus (intro w'; go_simp; with_reducible rfl)
              rotate_left; focus (simp only [Act.put, sA, sB, sC, i64_w, i32_w]; rfl)
              refine pure_ (i := 2) (N := some 157) (v := ?_) (a' := ?_) qq105 rfl rfl (any_of HT_.out (by kernel_rfl)) (fun _ _ _ h => h) (Or.inl ⟨by rfl, ?_⟩) ?_ ?_
              rotate_left; focus (intro w'; go_simp; with_reducible rfl)
              rotate_left; focus (simp only [Act.put, sA, sB, sC, i64_w, i32_w]; rfl)
              refine pure_ (i := 3) (N := some 158) (v := undef) (a' := ?_) qq106 rfl rfl (any_of HT_.out (by kernel_rfl)) (fun _ _ _ h => h) (Or.inr ⟨by rfl, rfl⟩) ?_ ?_
              rotate_left; focus (simp only [Act.put, sA, sB, sC, i64_w, i32_w]; rfl)
              refine pure_ (i := 4) (N := some 159) (v := undef) (a' := ?_) qq107 rfl rfl (any_of HT_.out (by kernel_rfl)) (fun _ _ _ h => h) (Or.inr ⟨by rfl, rfl⟩) ?_ ?_
              rotate_left; focus (simp only [Act.put, sA, sB, sC, i64_w, i32_w]; rfl)
              refine pure_ (i := 5) (N := some 160) (v := undef) (a' := ?_) qq108 rfl rfl (any_of HT_.out (by kernel_rfl)) (fun _ _ _ h => h) (Or.inr ⟨by rfl, rfl⟩) ?_ ?_
              rotate_left; focus (simp only [Act.put, sA, sB, sC, i64_w, i32_w]; rfl)
              refine pure_ (i := 6) (N := some 161) (v := undef) (a' := ?_) qq109 rfl rfl (any_of HT_.out (by kernel_rfl)) (fun _ _ _ h => h) (Or.inr ⟨by rfl, rfl⟩) ?_ ?_
              rotate_left; focus (simp only [Act.put, sA, sB, sC, i64_w, i32_w]; rfl)
              refine pure_ (i := 7) (N := some 162) (v := undef) (a' := ?_) qq128 rfl rfl (any_of HT_.out (by kernel_rfl)) (fun _ _ _ h => h) (Or.inr ⟨by rfl, rfl⟩) ?_ ?_
              rotate_left; focus (simp only [Act.put, sA, sB, sC, i64_w, i32_w]; rfl)
              refine pure_ (i := 8) (N := some 163) (v := undef) (a' := ?_) qq111 rfl rfl (any_of HT_.out (by kernel_rfl)) (fun _ _ _ h => h) (Or.inr ⟨by rfl, rfl⟩) ?_ ?_
              rotate_left; focus (simp only [Act.put, sA, sB, sC, i64_w, i32_w]; rfl)
              refine pure_ (i := 9) (N := some 164) (v := undef) (a' := ?_) qq112 rfl rfl (any_of HT_.out (by kernel_rfl)) (fun _ _ _ h => h) (Or.inr ⟨by rfl, rfl⟩) ?_ ?_
              rotate_left; focus (simp only [Act.put, sA, sB, sC, i64_w, i32_w]; rfl)
              refine pure_ (i := 10) (N := some 165) (v := undef) (a' := ?_) qq113 rfl rfl (any_of HT_.out (by kernel_rfl)) (fun _ _ _ h => h) (Or.inr ⟨by rfl, rfl⟩) ?_ ?_
              rotate_left; focus (simp only [Act.put, sA, sB, sC, i64_w, i32_w]; rfl)
              refine pure_ (i := 11) (N := some 166) (v := undef) (a' := ?_) qq114 rfl rfl (any_of HT_.out (by kernel_rfl)) (fun _ _ _ h => h) (Or.inr ⟨by rfl, rfl⟩) ?_ ?_
              rotate_left; focus (simp only [Act.put, sA, sB, sC, i64_w, i32_w]; rfl)
              refine pure_ (i := 12) (N := some 167) (v := ?_) (a' := ?_) qq115 rfl rfl (any_of HT_.out (by kernel_rfl)) (fun _ _ _ h => h) (Or.inl ⟨by rfl, ?_⟩) ?_ ?_
              rotate_left; focus (intro w'; go_simp; with_reducible rfl)
              rotate_left; focus (simp only [Act.put, sA, sB, sC, i64_w, i32_w]; rfl)
              refine pure_ (i := 13) (N := some 168) (v := ?_) (a' := ?_) qq116 rfl rfl (any_of HT_.out (by kernel_rfl)) (fun _ _ _ h => h) (Or.inl ⟨by rfl, ?_⟩) ?_ ?_
              rotate_left; focus (intro w'; go_simp; with_reducible rfl)
              rotate_left; focus (simp only [Act.put, sA, sB, sC, i64_w, i32_w]; rfl)
              refine pure_ (i := 15) (N := some 170) (v := ?_) (a' := ?_) qq117 rfl rfl (any_of HT_.out (by kernel_rfl)) (fun _ _ _ h => h) (Or.inl ⟨by rfl, ?_⟩) ?_ ?_
              rotate_left; focus (intro w'; go_simp; with_reducible rfl)
              rotate_left; focus (simp only [Act.put, sA, sB, sC, i64_w, i32_w]; rfl)
              refine take_ (i := 14) (N := some 169) (v := ?_) (a' := ?_) qq118 rfl rfl (take_ofW HT_.out HW_.out (by kernel_rfl)) (fun _ _ _ h => h) (Or.inl ⟨by rfl, ?_⟩) hHeld ?_ ?_
              rotate_left; focus (rintro w' ⟨s0, s1⟩; go_simp; with_reducible rfl)
              rotate_left; focus (simp only [Act.put, sA, sB, sC, i64_w, i32_w]; rfl)
              refine one_ (i := 16) (N := some 171) qq119 rfl rfl (one_of HT_.out (by kernel_rfl)) (by decide) (fun K hK => ?_)
              refine goes_ Try.func39 (by kernel_rfl) rfl #[.agg #[.int .i64 t266, .int .i64 t267], .int .i64 t268] (by rfl) rfl rfl (by (try simp only [List.map_toArray, List.map_cons, List.map_nil]); first | done | rfl | (simp only [List.length_drop, List.length_take]; rfl)) ?_
              with_reducible refine (impl_Holds.calls t266 t267 t268 true _ A288.out).mono ?_
              rintro e w314 ⟨rfl, hb⟩
              refine ⟨_, rfl, ?_⟩
              have n6_ := qcb hb BK269
              have n9_ := Aside0.mk (below_step (by repeat (first | (with_reducible first | exact HB.out | apply below_alloc | apply pw_below_drewN | apply below_drew1) | exact HB.out)) hb)
              clear BK269
              clear HB
              have BK269 := n6_
              have HB := n9_
              clear n6_ n9_; (try clear hb)
              (try clear hb2); (try clear hk); (try clear hi)
              refine hK.out _ _ ⟨(blk_cell BK269.out 0).trans rfl, (blk_cell BK269.out 1).trans rfl⟩ (fun hHeld => ?_)
              clear hK K
              refine norm_ (a' := ?_) ?_ ?_
              rotate_left; focus (show Act.put _ (some 171) _ = _; simp only [Act.put, sA, sB, sC, i64_w, i32_w]; rfl)
              refine pure_ (i := 17) (N := some 172) (v := ?_) (a' := ?_) qq120 rfl rfl (any_of HT_.out (by kernel_rfl)) (fun _ _ _ h => h) (Or.inl ⟨by rfl, ?_⟩) ?_ ?_
              rotate_left; focus (intro w'; go_simp; with_reducible rfl)
              rotate_left; focus (simp only [Act.put, sA, sB, sC, i64_w, i32_w]; rfl)
              refine pure_ (i := 18) (N := some 173) (v := ?_) (a' := ?_) qq121 rfl rfl (any_of HT_.out (by kernel_rfl)) (fun _ _ _ h => h) (Or.inl ⟨by rfl, ?_⟩) ?_ ?_
              rotate_left; focus (intro w'; go_simp; with_reducible rfl)
              rotate_left; focus (simp only [Act.put, sA, sB, sC, i64_w, i32_w]; rfl)
              refine take_ (i := 19) (N := some 174) (v := ?_) (a' := ?_) qq122 rfl rfl (take_ofW HT_.out HW_.out (by kernel_rfl)) (fun _ _ _ h => h) (Or.inl ⟨by rfl, ?_⟩) hHeld ?_ ?_
              rotate_left; focus (rintro w' ⟨s0, s1⟩; go_simp; with_reducible rfl)
              rotate_left; focus (simp only [Act.put, sA, sB, sC, i64_w, i32_w]; rfl)
              refine one_ (i := 20) (N := some 175) qq123 rfl rfl (one_of HT_.out (by kernel_rfl)) (by decide) (fun K hK => ?_)
              refine goes_ Try.func38 (by kernel_rfl) rfl #[.agg #[.int .i64 t266, .int .i64 t267]] (by rfl) rfl rfl (by (try simp only [List.map_toArray, List.map_cons, List.map_nil]); first | done | rfl | (simp only [List.length_drop, List.length_take]; rfl)) ?_
              with_reducible refine (impl_Hours.calls t266 t267 t287 _ A290.out).mono ?_
              rintro e w315 ⟨rfl, hb⟩
              refine ⟨_, rfl, ?_⟩
              have n6_ := qcb hb BK269
              have n9_ := Aside0.mk (below_step (by repeat (first | (with_reducible first | exact HB.out | apply below_alloc | apply pw_below_drewN | apply below_drew1) | exact HB.out)) hb)
              clear BK269
              clear HB
              have BK269 := n6_
              have HB := n9_
              clear n6_ n9_; (try clear hb)
              (try clear hb2); (try clear hk); (try clear hi)
              refine hK.out _ _ ⟨(blk_cell BK269.out 0).trans rfl, (blk_cell BK269.out 1).trans rfl⟩ (fun hHeld => ?_)
              clear hK K
              refine norm_ (a' := ?_) ?_ ?_
              rotate_left; focus (show Act.put _ (some 175) _ = _; simp only [Act.put, sA, sB, sC, i64_w, i32_w]; rfl)
              refine pure_ (i := 21) (N := some 176) (v := ?_) (a' := ?_) qq124 rfl rfl (any_of HT_.out (by kernel_rfl)) (fun _ _ _ h => h) (Or.inl ⟨by rfl, ?_⟩) ?_ ?_
              rotate_left; focus (intro w'; go_simp; with_reducible rfl)
              rotate_left; focus (simp only [Act.put, sA, sB, sC, i64_w, i32_w]; rfl)
              refine pure_ (i := 22) (N := some 177) (v := ?_) (a' := ?_) qq125 rfl rfl (any_of HT_.out (by kernel_rfl)) (fun _ _ _ h => h) (Or.inl ⟨by rfl, ?_⟩) ?_ ?_
              rotate_left; focus (intro w'; go_simp; with_reducible rfl)
              rotate_left; focus (simp only [Act.put, sA, sB, sC, i64_w, i32_w]; rfl)
              refine pure_ (i := 23) (N := some 178) (v := ?_) (a' := ?_) qq126 rfl rfl (any_of HT_.out (by kernel_rfl)) (fun _ _ _ h => h) (Or.inl ⟨by rfl, ?_⟩) ?_ ?_
              rotate_left; focus (intro w'; go_simp; with_reducible rfl)
              rotate_left; focus (simp only [Act.put, sA, sB, sC, i64_w, i32_w]; rfl)
              refine pure_ (i := 24) (N := some 2) (v := ?_) (a' := ?_) qq127 rfl rfl (any_of HT_.out (by kernel_rfl)) (fun _ _ _ h => h) (Or.inl ⟨by rfl, ?_⟩) ?_ ?_
              rotate_left; focus (intro w'; go_simp; with_reducible rfl)
              rotate_left; focus (simp only [Act.put, sA, sB, sC, i64_w, i32_w]; rfl)
              refine done_ (done_of HT_.out (by kernel_rfl)) ?_
              try go_wp2
              go_ret
              exact ⟨by first | rfl | (simp [errW_none, errW_some] <;> rfl) | (simp [*, errW_none, errW_some] <;> rfl), by repeat (first | (with_reducible first | exact HB.out | apply below_alloc | apply pw_below_drewN | apply below_drew1) | exact HB.out)⟩
             ·replace c289 := Bool.eq_false_iff.mpr c289
              subst c289
              have H1 : (some true) = some true := rfl
              clear H
              have H := H1
              clear H1; clear H
              try go_wp2_with (first | ((with_reducible refine gate_callee (f := 41) rfl ?_); refine goesL_ (some 146) rfl rfl Try.func41 (by kernel_rfl) rfl #[.slice A0 l0.length c0] rfl (by (try simp only [List.map_toArray, List.map_cons, List.map_nil]); first | done | rfl | (simp only [List.length_drop, List.length_take]; rfl)) ?_; (with_reducible refine (spec_DrawWiden.calls kj142 _ _ l0 t273 t274 t275 _ ?side1 ?side2 A172.out).mono ?_); (case side1 => repeat (first | exact (Kd.C_below HR0.out HB.out) | (with_reducible refine Kd.C_alloc ?_ _) | (with_reducible refine Kd.C_drewN ?_ _) | (with_reducible refine Kd.C_drew ?_))); (case side2 => exact HC0.out); rintro e w316 ⟨rfl, hb⟩; refine ⟨_, rfl, ?_⟩; have n6_ := qcb hb BK269; have n7_ := Aside0.mk (below_step (by repeat (first | (with_reducible first | exact HB.out | apply below_alloc | apply pw_below_drewN | apply below_drew1) | exact HB.out)) hb); clear BK237; clear BK238; clear BK242; clear BK269; clear HB; have BK269 := n6_; have HB := n7_; clear n6_ n7_; (try clear hb); (try clear hb2); (try clear hk); (try clear hi)) | ((with_reducible refine gate_dst (N := 15) rfl ?_); refine box_event ?hg (N := 15) ?hd (cs := #[.int .i64 0, .int .i64 0]) (t := 54) ?hr ?_; (case hd => rfl); (case hg => rfl); (case hr => first | (go_simp; done) | (go_simp; rfl)); intro gb276 hg w317 hbox hb; have n6_ := qcb hb BK269; have n7_ := Aside0.mk (below_step (by repeat (first | (with_reducible first | exact HB.out | apply below_alloc | apply pw_below_drewN | apply below_drew1) | exact HB.out)) hb); have n8_ := Aside0.mk (hbox); have n10_ := Aside0.mk ((by rw [hg]; exact (below_size (by repeat (first | (with_reducible first | exact HB.out | apply below_alloc | apply pw_below_drewN | apply below_drew1) | exact HB.out))) : w.heap.size ≤ gb276)); have n23_ := Aside0.mk ((by rw [hg]; exact Nat.ne_of_lt (blk_lt (g := gb269) (o := .cells #[.int .i64 t266, .int .i64 t267] 54 (0, 0)) (by (with_reducible repeat (first | refine blk_drewN ?_ _ | refine blk_drew ?_ | refine blk_alloc ?_ _)); exact BK269.out)) : gb269 ≠ gb276)); have n24_ := Aside0.mk ((by rw [hg]; exact Nat.ne_of_gt (blk_lt (g := gb269) (o := .cells #[.int .i64 t266, .int .i64 t267] 54 (0, 0)) (by (with_reducible repeat (first | refine blk_drewN ?_ _ | refine blk_drew ?_ | refine blk_alloc ?_ _)); exact BK269.out)) : gb276 ≠ gb269)); clear BK269; clear HB; have BK269 := n6_; have HB := n7_; have BK276 := n8_; have GE276 := n10_; have NB269_276 := n23_; have NB276_269 := n24_; clear n6_ n7_ n8_ n10_ n23_ n24_; clear hb hbox hg; have hnb324 := NB276_269.out; have hnc324 := NB269_276.out; have hcz325_0 : w317.cell? ⟨gb276, 0, none⟩ = some (.int .i64 0) := (blk_cell BK276.out 0).trans rfl; have hcz325_1 : w317.cell? ⟨gb276, 1, none⟩ = some (.int .i64 0) := (blk_cell BK276.out 1).trans rfl; have hfz325_0 := blk_frozen BK276.out 0; have hfz325_1 := blk_frozen BK276.out 1) | ((with_reducible refine gate_callee (f := 42) rfl ?_); refine goesL_ (some 152) rfl rfl Try.func42 (by kernel_rfl) rfl #[.agg #[.int .i64 t273, .int .i64 t274], .int .i64 t275] rfl (by (try simp only [List.map_toArray, List.map_cons, List.map_nil]); first | done | rfl | (simp only [List.length_drop, List.length_take]; rfl)) ?_; (with_reducible refine (impl_Widen.calls t273 t274 t275 t277 t278 false _ A173.out).mono ?_); rintro e w326 ⟨rfl, hb⟩; refine ⟨_, rfl, ?_⟩; have n6_ := Aside0.mk (blk_below (g := gb269) (o := .cells #[.int .i64 t266, .int .i64 t267] 54 (0, 0)) (by (with_reducible repeat (first | refine blk_drewN ?_ _ | refine blk_drew ?_ | refine blk_alloc ?_ _)); refine blk_far ?_ NB269_276.out _; (with_reducible repeat (first | refine blk_drewN ?_ _ | refine blk_drew ?_ | refine blk_alloc ?_ _)); refine blk_far ?_ NB269_276.out _; (with_reducible repeat (first | refine blk_drewN ?_ _ | refine blk_drew ?_ | refine blk_alloc ?_ _)); exact BK269.out) hb); have n8_ := Aside0.mk (below_step (by repeat (first | (with_reducible first | exact HB.out | apply below_alloc | apply pw_below_drewN | apply below_drew1 | refine below_set ?_ GE276.out) | exact HB.out)) hb); clear BK269; clear BK276; clear HB; have BK269 := n6_; have HB := n8_; clear n6_ n8_; (try clear hb); (try clear hb2); (try clear hk); (try clear hi)) | ((with_reducible refine gate_dst (N := 17) rfl ?_); refine box_event ?hg (N := 17) ?hd (cs := #[.int .i64 0, .int .i64 0]) (t := 54) ?hr ?_; (case hd => rfl); (case hg => rfl); (case hr => first | (go_simp; done) | (go_simp; rfl)); intro gb280 hg w327 hbox hb; have n6_ := qcb hb BK269; have n8_ := Aside0.mk (below_step (by repeat (first | (with_reducible first | exact HB.out | apply below_alloc | apply pw_below_drewN | apply below_drew1) | exact HB.out)) hb); have n9_ := Aside0.mk (hbox); have n11_ := Aside0.mk ((by rw [hg]; exact (below_size (by repeat (first | (with_reducible first | exact HB.out | apply below_alloc | apply pw_below_drewN | apply below_drew1) | exact HB.out))) : w.heap.size ≤ gb280)); have n24_ := Aside0.mk ((by rw [hg]; exact Nat.ne_of_lt (blk_lt (g := gb269) (o := .cells #[.int .i64 t266, .int .i64 t267] 54 (0, 0)) (by (with_reducible repeat (first | refine blk_drewN ?_ _ | refine blk_drew ?_ | refine blk_alloc ?_ _)); exact BK269.out)) : gb269 ≠ gb280)); have n25_ := Aside0.mk ((by rw [hg]; exact Nat.ne_of_gt (blk_lt (g := gb269) (o := .cells #[.int .i64 t266, .int .i64 t267] 54 (0, 0)) (by (with_reducible repeat (first | refine blk_drewN ?_ _ | refine blk_drew ?_ | refine blk_alloc ?_ _)); exact BK269.out)) : gb280 ≠ gb269)); clear BK269; clear HB; have BK269 := n6_; have HB := n8_; have BK280 := n9_; have GE280 := n11_; have NB269_280 := n24_; have NB280_269 := n25_; clear n6_ n8_ n9_ n11_ n24_ n25_; clear hb hbox hg; have hnb334 := NB280_269.out; have hnc334 := NB269_280.out; have hcz336_0 : w327.cell? ⟨gb280, 0, none⟩ = some (.int .i64 0) := (blk_cell BK280.out 0).trans rfl; have hcz336_1 : w327.cell? ⟨gb280, 1, none⟩ = some (.int .i64 0) := (blk_cell BK280.out 1).trans rfl; have hfz336_0 := blk_frozen BK280.out 0; have hfz336_1 := blk_frozen BK280.out 1))
              have n6_ := qff w327 (.int .i64 t277) (.int .i64 t278) NB269_280 BK269
              have n9_ : Aside0 (Below w.heap.size w ((w327.setCell ⟨gb280, 0, none⟩ (.int .i64 t277)).setCell ⟨gb280, 1, none⟩ (.int .i64 t278))) := ⟨by repeat (first | (with_reducible first | exact HB.out | apply below_alloc | apply pw_below_drewN | apply below_drew1 | refine below_set ?_ GE280.out) | exact HB.out)⟩
              (try clear BK269)
              (try clear BK280); (try clear HB)
              generalize ((w327.setCell ⟨gb280, 0, none⟩ (.int .i64 t277)).setCell ⟨gb280, 1, none⟩ (.int .i64 t278)) = w337 at n6_ n9_ ⊢
              have BK269 := n6_
              have HB := n9_
              clear n6_ n9_
              have n6_ := Aside0.mk (blk_drew BK269.out)
              have n9_ := Aside0.mk (below_drew1 HB.out)
              clear BK269
              clear HB
              have BK269 := n6_
              have HB := n9_
              clear n6_ n9_
              refine start_ (n := 25) (S := fun w' => w'.cell? ⟨gb269, 0, none⟩ = some (.int .i64 t266) ∧ w'.cell? ⟨gb269, 1, none⟩ = some (.int .i64 t267)) (ds := []) qq102 (by kernel_rfl) rfl rfl ⟨(blk_cell BK269.out 0).trans rfl, (blk_cell BK269.out 1).trans rfl⟩ (fun hHeld => ?_); refine with_tabW laws_FnSpans.tab19 laws_FnSpans.bits19 (fun HT_ HW_ => ?_)
              generalize w337.drew = w338 at BK269 HB hHeld ⊢
              refine pure_ (i := 0) (N := some 155) (v := ?_) (a' := ?_) qq103 rfl rfl (any_of HT_.out (by kernel_rfl)) (fun _ _ _ h => h) (Or.inl ⟨by rfl, ?_⟩) ?_ ?_
              rotate_left; focus (intro w'; go_simp; with_reducible rfl)
              rotate_left; focus (simp only [Act.put, sA, sB, sC, i64_w, i32_w]; rfl)
              refine pure_ (i := 1) (N := some 156) (v := ?_) (a' := ?_) qq104 rfl rfl (any_of HT_.out (by kernel_rfl)) (fun _ _ _ h => h) (Or.inl ⟨by rfl, ?_⟩) ?_ ?_
              rotate_left; focus (intro w'; go_simp; with_reducible rfl)
              rotate_left; focus (simp only [Act.put, sA, sB, sC, i64_w, i32_w]; rfl)
              refine pure_ (i := 2) (N := some 157) (v := ?_) (a' := ?_) qq105 rfl rfl (any_of HT_.out (by kernel_rfl)) (fun _ _ _ h => h) (Or.inl ⟨by rfl, ?_⟩) ?_ ?_
              rotate_left; focus (intro w'; go_simp; with_reducible rfl)
              rotate_left; focus (simp only [Act.put, sA, sB, sC, i64_w, i32_w]; rfl)
              refine pure_ (i := 3) (N := some 158) (v := undef) (a' := ?_) qq106 rfl rfl (any_of HT_.out (by kernel_rfl)) (fun _ _ _ h => h) (Or.inr ⟨by rfl, rfl⟩) ?_ ?_
              rotate_left; focus (simp only [Act.put, sA, sB, sC, i64_w, i32_w]; rfl)
              refine pure_ (i := 4) (N := some 159) (v := undef) (a' := ?_) qq107 rfl rfl (any_of HT_.out (by kernel_rfl)) (fun _ _ _ h => h) (Or.inr ⟨by rfl, rfl⟩) ?_ ?_
              rotate_left; focus (simp only [Act.put, sA, sB, sC, i64_w, i32_w]; rfl)
              refine pure_ (i := 5) (N := some 160) (v := undef) (a' := ?_) qq108 rfl rfl (any_of HT_.out (by kernel_rfl)) (fun _ _ _ h => h) (Or.inr ⟨by rfl, rfl⟩) ?_ ?_
              rotate_left; focus (simp only [Act.put, sA, sB, sC, i64_w, i32_w]; rfl)
              refine pure_ (i := 6) (N := some 161) (v := undef) (a' := ?_) qq109 rfl rfl (any_of HT_.out (by kernel_rfl)) (fun _ _ _ h => h) (Or.inr ⟨by rfl, rfl⟩) ?_ ?_
              rotate_left; focus (simp only [Act.put, sA, sB, sC, i64_w, i32_w]; rfl)
              refine pure_ (i := 7) (N := some 162) (v := undef) (a' := ?_) qq128 rfl rfl (any_of HT_.out (by kernel_rfl)) (fun _ _ _ h => h) (Or.inr ⟨by rfl, rfl⟩) ?_ ?_
              rotate_left; focus (simp only [Act.put, sA, sB, sC, i64_w, i32_w]; rfl)
              refine pure_ (i := 8) (N := some 163) (v := undef) (a' := ?_) qq111 rfl rfl (any_of HT_.out (by kernel_rfl)) (fun _ _ _ h => h) (Or.inr ⟨by rfl, rfl⟩) ?_ ?_
              rotate_left; focus (simp only [Act.put, sA, sB, sC, i64_w, i32_w]; rfl)
              refine pure_ (i := 9) (N := some 164) (v := undef) (a' := ?_) qq112 rfl rfl (any_of HT_.out (by kernel_rfl)) (fun _ _ _ h => h) (Or.inr ⟨by rfl, rfl⟩) ?_ ?_
              rotate_left; focus (simp only [Act.put, sA, sB, sC, i64_w, i32_w]; rfl)
              refine pure_ (i := 10) (N := some 165) (v := undef) (a' := ?_) qq113 rfl rfl (any_of HT_.out (by kernel_rfl)) (fun _ _ _ h => h) (Or.inr ⟨by rfl, rfl⟩) ?_ ?_
              rotate_left; focus (simp only [Act.put, sA, sB, sC, i64_w, i32_w]; rfl)
              refine pure_ (i := 11) (N := some 166) (v := undef) (a' := ?_) qq114 rfl rfl (any_of HT_.out (by kernel_rfl)) (fun _ _ _ h => h) (Or.inr ⟨by rfl, rfl⟩) ?_ ?_
              rotate_left; focus (simp only [Act.put, sA, sB, sC, i64_w, i32_w]; rfl)
              refine pure_ (i := 12) (N := some 167) (v := ?_) (a' := ?_) qq115 rfl rfl (any_of HT_.out (by kernel_rfl)) (fun _ _ _ h => h) (Or.inl ⟨by rfl, ?_⟩) ?_ ?_
              rotate_left; focus (intro w'; go_simp; with_reducible rfl)
              rotate_left; focus (simp only [Act.put, sA, sB, sC, i64_w, i32_w]; rfl)
              refine pure_ (i := 13) (N := some 168) (v := ?_) (a' := ?_) qq116 rfl rfl (any_of HT_.out (by kernel_rfl)) (fun _ _ _ h => h) (Or.inl ⟨by rfl, ?_⟩) ?_ ?_
              rotate_left; focus (intro w'; go_simp; with_reducible rfl)
              rotate_left; focus (simp only [Act.put, sA, sB, sC, i64_w, i32_w]; rfl)
              refine pure_ (i := 15) (N := some 170) (v := ?_) (a' := ?_) qq117 rfl rfl (any_of HT_.out (by kernel_rfl)) (fun _ _ _ h => h) (Or.inl ⟨by rfl, ?_⟩) ?_ ?_
              rotate_left; focus (intro w'; go_simp; with_reducible rfl)
              rotate_left; focus (simp only [Act.put, sA, sB, sC, i64_w, i32_w]; rfl)
              refine take_ (i := 14) (N := some 169) (v := ?_) (a' := ?_) qq118 rfl rfl (take_ofW HT_.out HW_.out (by kernel_rfl)) (fun _ _ _ h => h) (Or.inl ⟨by rfl, ?_⟩) hHeld ?_ ?_
              rotate_left; focus (rintro w' ⟨s0, s1⟩; go_simp; with_reducible rfl)
              rotate_left; focus (simp only [Act.put, sA, sB, sC, i64_w, i32_w]; rfl)
              refine one_ (i := 16) (N := some 171) qq119 rfl rfl (one_of HT_.out (by kernel_rfl)) (by decide) (fun K hK => ?_)
              refine goes_ Try.func39 (by kernel_rfl) rfl #[.agg #[.int .i64 t266, .int .i64 t267], .int .i64 t268] (by rfl) rfl rfl (by (try simp only [List.map_toArray, List.map_cons, List.map_nil]); first | done | rfl | (simp only [List.length_drop, List.length_take]; rfl)) ?_
              with_reducible refine (impl_Holds.calls t266 t267 t268 false _ A288.out).mono ?_
              rintro e w339 ⟨rfl, hb⟩
              refine ⟨_, rfl, ?_⟩
              have n6_ := qcb hb BK269
              have n9_ := Aside0.mk (below_step (by repeat (first | (with_reducible first | exact HB.out | apply below_alloc | apply pw_below_drewN | apply below_drew1) | exact HB.out)) hb)
              clear BK269
              clear HB
              have BK269 := n6_
              have HB := n9_
              clear n6_ n9_; (try clear hb)
              (try clear hb2); (try clear hk); (try clear hi)
              refine hK.out _ _ ⟨(blk_cell BK269.out 0).trans rfl, (blk_cell BK269.out 1).trans rfl⟩ (fun hHeld => ?_)
              clear hK K
              refine norm_ (a' := ?_) ?_ ?_
              rotate_left; focus (show Act.put _ (some 171) _ = _; simp only [Act.put, sA, sB, sC, i64_w, i32_w]; rfl)
              refine pure_ (i := 17) (N := some 172) (v := ?_) (a' := ?_) qq120 rfl rfl (any_of HT_.out (by kernel_rfl)) (fun _ _ _ h => h) (Or.inl ⟨by rfl, ?_⟩) ?_ ?_
              rotate_left; focus (intro w'; go_simp; with_reducible rfl)
              rotate_left; focus (simp only [Act.put, sA, sB, sC, i64_w, i32_w]; rfl)
              refine pure_ (i := 18) (N := some 173) (v := ?_) (a' := ?_) qq121 rfl rfl (any_of HT_.out (by kernel_rfl)) (fun _ _ _ h => h) (Or.inl ⟨by rfl, ?_⟩) ?_ ?_
              rotate_left; focus (intro w'; go_simp; with_reducible rfl)
              rotate_left; focus (simp only [Act.put, sA, sB, sC, i64_w, i32_w]; rfl)
              refine pure_ (i := 19) (N := some 174) (v := undef) (a' := ?_) qq122 rfl rfl (any_of HT_.out (by kernel_rfl)) (fun _ _ _ h => h) (Or.inr ⟨by rfl, rfl⟩) ?_ ?_
              rotate_left; focus (simp only [Act.put, sA, sB, sC, i64_w, i32_w]; rfl)
              refine pure_ (i := 20) (N := some 175) (v := undef) (a' := ?_) qq123 rfl rfl (any_of HT_.out (by kernel_rfl)) (fun _ _ _ h => h) (Or.inr ⟨by rfl, rfl⟩) ?_ ?_
              rotate_left; focus (simp only [Act.put, sA, sB, sC, i64_w, i32_w]; rfl)
              refine pure_ (i := 21) (N := some 176) (v := undef) (a' := ?_) qq124 rfl rfl (any_of HT_.out (by kernel_rfl)) (fun _ _ _ h => h) (Or.inr ⟨by rfl, rfl⟩) ?_ ?_
              rotate_left; focus (simp only [Act.put, sA, sB, sC, i64_w, i32_w]; rfl)
              refine pure_ (i := 22) (N := some 177) (v := ?_) (a' := ?_) qq125 rfl rfl (any_of HT_.out (by kernel_rfl)) (fun _ _ _ h => h) (Or.inl ⟨by rfl, ?_⟩) ?_ ?_
              rotate_left; focus (intro w'; go_simp; with_reducible rfl)
              rotate_left; focus (simp only [Act.put, sA, sB, sC, i64_w, i32_w]; rfl)
              refine pure_ (i := 23) (N := some 178) (v := ?_) (a' := ?_) qq126 rfl rfl (any_of HT_.out (by kernel_rfl)) (fun _ _ _ h => h) (Or.inl ⟨by rfl, ?_⟩) ?_ ?_
              rotate_left; focus (intro w'; go_simp; with_reducible rfl)
              rotate_left; focus (simp only [Act.put, sA, sB, sC, i64_w, i32_w]; rfl)
              refine pure_ (i := 24) (N := some 2) (v := ?_) (a' := ?_) qq127 rfl rfl (any_of HT_.out (by kernel_rfl)) (fun _ _ _ h => h) (Or.inl ⟨by rfl, ?_⟩) ?_ ?_
              rotate_left; focus (intro w'; go_simp; with_reducible rfl)
              rotate_left; focus (simp only [Act.put, sA, sB, sC, i64_w, i32_w]; rfl)
              refine done_ (done_of HT_.out (by kernel_rfl)) ?_
              try go_wp2
              go_ret
              exact ⟨by first | rfl | (simp [errW_none, errW_some] <;> rfl) | (simp [*, errW_none, errW_some] <;> rfl), by repeat (first | (with_reducible first | exact HB.out | apply below_alloc | apply pw_below_drewN | apply below_drew1) | exact HB.out)⟩
end Go.Proofs.Ytoocbgjcigadfab.PFnSpans
