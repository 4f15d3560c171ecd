/- Contracts of functions that the law FnFinds reaches: called with any arguments they return what the plain functions here say, and nothing that lay in memory before is changed; no other conditions. -/
import Derived.Test.YtkgdofogalfhjacWkFnFindsx0
import Derived.Test.YtkgdofogalfhjacWkFnFindsx2
import Derived.Test.YtkgdofogalfhjacWkFnFindsx3
import Derived.Test.YtkgdofogalfhjacWkFnFindsx4
import Derived.Test.YtkgdofogalfhjacWkFnFindsx5
namespace Go.Proofs.Ytkgdofogalfhjac.PFnFinds
open Go.RowKit Go.Proofs.YtkgdofogalfhjacW.PrintWords Go.Proofs.YtkgdofogalfhjacW.PrintLast Go.Proofs.YtkgdofogalfhjacW.PrintMore
attribute [local go_sem] max2_int min2_int max_two min_two max_three min_three max_four min_four   -- for this text's walks alone
set_option linter.unusedVariables false
set_option linter.unusedSimpArgs false

/-! ### impl_PutFind: function 15 -/
mutual
def impl_PutFind.j1 : Nat → List (S31) → List (S31) → Int → Int → Int → Int → Int → Int → Int → Int → Int → Option ((List (S31)) × Bool)
 | 0, _, _, _, _, _, _, _, _, _, _, _ => none
 | k + 1, x0, x6, x7, x329000, x329001, x329002, x329003, x329004, x329005, x329006, x329007 => (impl_Find_42.f x6 x7 (([(⟨(⟨x329000, x329001, x329002, x329003, x329004⟩ : S29), x329005, x329006, x329007⟩ : S31)] : List (S31)))).bind fun t337 => ((impl_AreFinds.f k t337).bind fun t340 => (if t340 = true then (some (t337, true)) else ((impl_Find_41.f x0).bind fun t341 => (some (t341, false)))))
def impl_PutFind.l0 : Nat → List (S31) → List (S31) → Int → Int → Int → Int → Int → Int → Int → Int → Int → Option ((List (S31)) × Bool)
 | 0, _, _, _, _, _, _, _, _, _, _, _ => none
 | k + 1, x0, x6, x7, x329000, x329001, x329002, x329003, x329004, x329005, x329006, x329007 => if x7 < (x0.length : Int) then (if 0 ≤ x7 then (if ((rd_T31 x0 x7).f0.f0) < x329000 then (impl_PutFind.l0 k x0 x6 (wrap64 (x7 + 1)) x329000 x329001 x329002 x329003 x329004 x329005 x329006 x329007) else (impl_PutFind.j1 k x0 x6 x7 x329000 x329001 x329002 x329003 x329004 x329005 x329006 x329007)) else (none)) else (impl_PutFind.j1 k x0 x6 x7 x329000 x329001 x329002 x329003 x329004 x329005 x329006 x329007)
end
def impl_PutFind.f (k : Nat) (l0 : List (S31)) (a1_0 : Int) (a1_1 : Int) (a1_2 : Int) (a1_3 : Int) (a1_4 : Int) (a1_5 : Int) (a1_6 : Int) (a1_7 : Int) : Option ((List (S31)) × Bool) := (impl_Find_41.f l0).bind fun t329 => ((impl_FindThing.f k l0 a1_0).bind fun t332 => (if t332 ≥ 0 then (some (t329, false)) else (impl_PutFind.l0 k l0 t329 0 a1_0 a1_1 a1_2 a1_3 a1_4 a1_5 a1_6 a1_7)))
theorem impl_PutFind.mono_l : ∀ k, (∀ y0 y1 y2 y3 y4 y5 y6 y7 y8 y9 y10, LeO (impl_PutFind.j1 k y0 y1 y2 y3 y4 y5 y6 y7 y8 y9 y10) (impl_PutFind.j1 (k + 1) y0 y1 y2 y3 y4 y5 y6 y7 y8 y9 y10)) ∧ (∀ y0 y1 y2 y3 y4 y5 y6 y7 y8 y9 y10, LeO (impl_PutFind.l0 k y0 y1 y2 y3 y4 y5 y6 y7 y8 y9 y10) (impl_PutFind.l0 (k + 1) y0 y1 y2 y3 y4 y5 y6 y7 y8 y9 y10))
 | 0 => ⟨fun _ _ _ _ _ _ _ _ _ _ _ r h => by simp [impl_PutFind.j1] at h, fun _ _ _ _ _ _ _ _ _ _ _ r h => by simp [impl_PutFind.l0] at h⟩
 | k + 1 => by
  obtain ⟨ih0, ih1⟩ := impl_PutFind.mono_l k
  refine ⟨?_, ?_⟩
  ·intro y0 y1 y2 y3 y4 y5 y6 y7 y8 y9 y10
   unfold impl_PutFind.j1
   repeat' first
   | (with_reducible exact ih0 _ _ _ _ _ _ _ _ _ _ _)
   | (with_reducible exact ih1 _ _ _ _ _ _ _ _ _ _ _)
   | (with_reducible exact impl_AreFinds.mono _ _)
   | (with_reducible exact impl_FindThing.mono _ _ _)
   | (with_reducible exact LeO.refl _)
   | (with_reducible exact LeO.none _)
   | (with_reducible refine LeO.ite ?_ ?_)
   | (with_reducible refine LeO.bind ?_ (fun _ => ?_))
   | exact ih0 _ _ _ _ _ _ _ _ _ _ _
   | exact ih1 _ _ _ _ _ _ _ _ _ _ _
   | exact impl_AreFinds.mono _ _
   | exact impl_FindThing.mono _ _ _
   | exact LeO.none _
   | refine LeO.ite ?_ ?_
   | refine LeO.bind ?_ (fun _ => ?_)
  ·intro y0 y1 y2 y3 y4 y5 y6 y7 y8 y9 y10
   unfold impl_PutFind.l0
   repeat' first
   | (with_reducible exact ih0 _ _ _ _ _ _ _ _ _ _ _)
   | (with_reducible exact ih1 _ _ _ _ _ _ _ _ _ _ _)
   | (with_reducible exact impl_AreFinds.mono _ _)
   | (with_reducible exact impl_FindThing.mono _ _ _)
   | (with_reducible exact LeO.refl _)
   | (with_reducible exact LeO.none _)
   | (with_reducible refine LeO.ite ?_ ?_)
   | (with_reducible refine LeO.bind ?_ (fun _ => ?_))
   | exact ih0 _ _ _ _ _ _ _ _ _ _ _
   | exact ih1 _ _ _ _ _ _ _ _ _ _ _
   | exact impl_AreFinds.mono _ _
   | exact impl_FindThing.mono _ _ _
   | exact LeO.none _
   | refine LeO.ite ?_ ?_
   | refine LeO.bind ?_ (fun _ => ?_)
theorem impl_PutFind.mono : ∀ a0 a1 a2 a3 a4 a5 a6 a7 a8 k, LeO (impl_PutFind.f k a0 a1 a2 a3 a4 a5 a6 a7 a8) (impl_PutFind.f (k + 1) a0 a1 a2 a3 a4 a5 a6 a7 a8) := by
 intro a0 a1 a2 a3 a4 a5 a6 a7 a8 k
 obtain ⟨ih0, ih1⟩ := impl_PutFind.mono_l k
 unfold impl_PutFind.f
 repeat' first
   | (with_reducible exact ih0 _ _ _ _ _ _ _ _ _ _ _)
   | (with_reducible exact ih1 _ _ _ _ _ _ _ _ _ _ _)
   | (with_reducible exact impl_AreFinds.mono _ _)
   | (with_reducible exact impl_FindThing.mono _ _ _)
   | (with_reducible exact LeO.refl _)
   | (with_reducible exact LeO.none _)
   | (with_reducible refine LeO.ite ?_ ?_)
   | (with_reducible refine LeO.bind ?_ (fun _ => ?_))
   | exact ih0 _ _ _ _ _ _ _ _ _ _ _
   | exact ih1 _ _ _ _ _ _ _ _ _ _ _
   | exact impl_AreFinds.mono _ _
   | exact impl_FindThing.mono _ _ _
   | exact LeO.none _
   | refine LeO.ite ?_ ?_
   | refine LeO.bind ?_ (fun _ => ?_)
set_option maxHeartbeats 8000000 in
set_option maxRecDepth 100000 in
theorem impl_PutFind.calls (k : Nat) (A0 : Option Addr) (c0 : Nat) (l0 : List (S31)) (a1_0 : Int) (a1_1 : Int) (a1_2 : Int) (a1_3 : Int) (a1_4 : Int) (a1_5 : Int) (a1_6 : Int) (a1_7 : Int) (r1 : List (S31)) (r2 : Bool) (w : World) (hr0 : Kd.C k31 w A0 l0.length l0) (hc0 : l0.length ≤ c0) (h : impl_PutFind.f k l0 a1_0 a1_1 a1_2 a1_3 a1_4 a1_5 a1_6 a1_7 = some (r1, r2)) :
  Calls Try.prog 15 #[.slice A0 l0.length c0, .agg #[.int .i64 a1_0, .int .i64 a1_1, .int .i64 a1_2, .int .i64 a1_3, .int .i64 a1_4, .int .i64 a1_5, .int .i64 a1_6, .int .i64 a1_7]] w fun e w' => ∃ v0_ : Value, e = .returned (.tuple #[v0_, .bool r2]) ∧ Kd.R k31 31 w' w.heap.size (fun _ => True) v0_ r1 ∧ Below w.heap.size w w' := by
 have hu31 := Try.underlying31
 have HR0 := Aside0.mk hr0
 have HC0 := Aside0.mk hc0
 clear hr0 hc0
 have HB := Aside0.mk (Below.refl w.heap.size w)
 have H : ((impl_Find_41.f l0).bind fun t329 => ((impl_FindThing.f k l0 a1_0).bind fun t332 => (if t332 ≥ 0 then (some (t329, false)) else (impl_PutFind.l0 k l0 t329 0 a1_0 a1_1 a1_2 a1_3 a1_4 a1_5 a1_6 a1_7)))) = some (r1, r2) := h
 clear h
 replace H := obm H
 obtain ⟨t329, A30, H⟩ := H
 replace H : ((impl_FindThing.f k l0 a1_0).bind fun t332 => (if t332 ≥ 0 then (some (t329, false)) else (impl_PutFind.l0 k l0 t329 0 a1_0 a1_1 a1_2 a1_3 a1_4 a1_5 a1_6 a1_7))) = some (r1, r2) := H
 have A3 := Aside0.mk A30
 clear A30
 replace H := obm H
 obtain ⟨t332, A40, H⟩ := H
 replace H : (if t332 ≥ 0 then (some (t329, false)) else (impl_PutFind.l0 k l0 t329 0 a1_0 a1_1 a1_2 a1_3 a1_4 a1_5 a1_6 a1_7)) = some (r1, r2) := H
 have A4 := Aside0.mk A40
 clear A40
 by_cases c5 : t332 ≥ 0
 ·rw [if_pos c5] at H
  have c5b0 : decide (0 ≤ t332) = true := decide_eq_true c5
  clear c5
  simp only [Option.some.injEq, Prod.mk.injEq] at H
  obtain ⟨rfl, rfl⟩ := H
  go_enter Try.func15, Try.ntmps15
  go_wp2_with (first | ((with_reducible refine gate_dst (N := 3) rfl ?_); refine box_event ?hg (N := 3) ?hd (cs := #[.int .i64 a1_0, .int .i64 a1_1, .int .i64 a1_2, .int .i64 a1_3, .int .i64 a1_4, .int .i64 a1_5, .int .i64 a1_6, .int .i64 a1_7]) (t := 31) ?hr ?_; (case hd => rfl); (case hg => rfl); (case hr => first | (go_simp; done) | (go_simp; rfl)); intro gb328 hg w6 hbox hb; have BK328 := Aside0.mk (hbox); have GW328 := Aside0.mk ((by rw [hg]; exact (below_size (by repeat (first | (with_reducible first | exact HB.out | apply bA | apply bN | apply bD) | exact HB.out))) : w.heap.size ≤ gb328)); have GE328 := Aside0.mk ((by rw [hg]; exact (below_size (by repeat (first | (with_reducible first | exact HB.out | apply bA | apply bN | apply bD) | exact HB.out))) : w.heap.size ≤ gb328)); replace HB := Aside0.mk (below_step (by repeat (first | (with_reducible first | exact HB.out | apply bA | apply bN | apply bD) | exact HB.out)) hb); clear hb hbox hg) | (go_at_call 41; (with_reducible refine (impl_Find_41.calls _ _ l0 t329 _ ?side1 ?side2 A3.out).mono ?_); (case side1 => repeat (first | exact (Kd.C_below HR0.out HB.out) | (with_reducible refine cA ?_ _) | (with_reducible refine cN ?_ _) | (with_reducible refine cD ?_))); (case side2 => exact HC0.out); rintro e w7 ⟨v330, rfl, ho0, hb⟩; have HO331 := Aside0.mk (Kd.R_lower (Kd.R_newB ho0 (g := gb328) (o := .cells #[.int .i64 a1_0, .int .i64 a1_1, .int .i64 a1_2, .int .i64 a1_3, .int .i64 a1_4, .int .i64 a1_5, .int .i64 a1_6, .int .i64 a1_7] 31 (0, 0)) (by (with_reducible repeat (first | refine dN ?_ _ | refine dW ?_ | refine dA ?_ _)); exact BK328.out)) (below_size (by repeat (first | (with_reducible first | exact HB.out | apply bA | apply bN | apply bD | refine bS ?_ GE328.out) | exact HB.out)))); replace BK328 := qcb hb BK328; replace HB := Aside0.mk (below_step (by repeat (first | (with_reducible first | exact HB.out | apply bA | apply bN | apply bD | refine bS ?_ GE328.out) | exact HB.out)) hb); (try clear hb); (try clear hb2); (try clear hk); (try clear hi); (try clear ho0); have hcz8_0 : w7.cell? ⟨gb328, 0, none⟩ = some (.int .i64 a1_0) := (blk_cell BK328.out 0).trans rfl; have hcz8_1 : w7.cell? ⟨gb328, 1, none⟩ = some (.int .i64 a1_1) := (blk_cell BK328.out 1).trans rfl; have hcz8_2 : w7.cell? ⟨gb328, 2, none⟩ = some (.int .i64 a1_2) := (blk_cell BK328.out 2).trans rfl; have hcz8_3 : w7.cell? ⟨gb328, 3, none⟩ = some (.int .i64 a1_3) := (blk_cell BK328.out 3).trans rfl; have hcz8_4 : w7.cell? ⟨gb328, 4, none⟩ = some (.int .i64 a1_4) := (blk_cell BK328.out 4).trans rfl; have hcz8_5 : w7.cell? ⟨gb328, 5, none⟩ = some (.int .i64 a1_5) := (blk_cell BK328.out 5).trans rfl; have hcz8_6 : w7.cell? ⟨gb328, 6, none⟩ = some (.int .i64 a1_6) := (blk_cell BK328.out 6).trans rfl; have hcz8_7 : w7.cell? ⟨gb328, 7, none⟩ = some (.int .i64 a1_7) := (blk_cell BK328.out 7).trans rfl; have hfz8_0 := blk_frozen BK328.out 0; have hfz8_1 := blk_frozen BK328.out 1; have hfz8_2 := blk_frozen BK328.out 2; have hfz8_3 := blk_frozen BK328.out 3; have hfz8_4 := blk_frozen BK328.out 4; have hfz8_5 := blk_frozen BK328.out 5; have hfz8_6 := blk_frozen BK328.out 6; have hfz8_7 := blk_frozen BK328.out 7) | (go_at_call 17; (with_reducible refine (impl_FindThing.calls k _ _ l0 a1_0 t332 _ ?side1 ?side2 A4.out).mono ?_); (case side1 => repeat (first | exact (Kd.C_below HR0.out HB.out) | (with_reducible refine cA ?_ _) | (with_reducible refine cN ?_ _) | (with_reducible refine cD ?_))); (case side2 => exact HC0.out); rintro e w9 ⟨rfl, hb⟩; replace HO331 := Aside0.mk (Kd.R_below (by (with_reducible repeat (first | apply rA | apply rN | apply rD)); exact HO331.out) hb); replace BK328 := qcb hb BK328; replace HB := Aside0.mk (below_step (by repeat (first | (with_reducible first | exact HB.out | apply bA | apply bN | apply bD | refine bS ?_ GE328.out) | exact HB.out)) hb); (try clear hb); (try clear hb2); (try clear hk); (try clear hi)))
  go_ret2
  exact ⟨_, by first | rfl | (simp [errW_none, errW_some] <;> rfl) | (simp [*, errW_none, errW_some] <;> rfl), by (with_reducible repeat (first | apply rA | apply rN | apply rD)); exact Kd.R_mono HO331.out (fun _ hk => trivial), by repeat (first | (with_reducible first | exact HB.out | apply bA | apply bN | apply bD | refine bS ?_ GE328.out) | exact HB.out)⟩
 ·rw [if_neg c5] at H
  have c5b0 : decide (0 ≤ t332) = false := decide_eq_false c5
  clear c5
  have HC10 := Aside0.mk H
  clear H
  go_enter Try.func15, Try.ntmps15
  go_upto_block 0 with (first | ((with_reducible refine gate_dst (N := 3) rfl ?_); refine box_event ?hg (N := 3) ?hd (cs := #[.int .i64 a1_0, .int .i64 a1_1, .int .i64 a1_2, .int .i64 a1_3, .int .i64 a1_4, .int .i64 a1_5, .int .i64 a1_6, .int .i64 a1_7]) (t := 31) ?hr ?_; (case hd => rfl); (case hg => rfl); (case hr => first | (go_simp; done) | (go_simp; rfl)); intro gb328 hg w11 hbox hb; have BK328 := Aside0.mk (hbox); have GW328 := Aside0.mk ((by rw [hg]; exact (below_size (by repeat (first | (with_reducible first | exact HB.out | apply bA | apply bN | apply bD) | exact HB.out))) : w.heap.size ≤ gb328)); have GE328 := Aside0.mk ((by rw [hg]; exact (below_size (by repeat (first | (with_reducible first | exact HB.out | apply bA | apply bN | apply bD) | exact HB.out))) : w.heap.size ≤ gb328)); replace HB := Aside0.mk (below_step (by repeat (first | (with_reducible first | exact HB.out | apply bA | apply bN | apply bD) | exact HB.out)) hb); clear hb hbox hg) | (go_at_call 41; (with_reducible refine (impl_Find_41.calls _ _ l0 t329 _ ?side1 ?side2 A3.out).mono ?_); (case side1 => repeat (first | exact (Kd.C_below HR0.out HB.out) | (with_reducible refine cA ?_ _) | (with_reducible refine cN ?_ _) | (with_reducible refine cD ?_))); (case side2 => exact HC0.out); rintro e w12 ⟨v330, rfl, ho0, hb⟩; have HO331 := Aside0.mk (Kd.R_lower (Kd.R_newB ho0 (g := gb328) (o := .cells #[.int .i64 a1_0, .int .i64 a1_1, .int .i64 a1_2, .int .i64 a1_3, .int .i64 a1_4, .int .i64 a1_5, .int .i64 a1_6, .int .i64 a1_7] 31 (0, 0)) (by (with_reducible repeat (first | refine dN ?_ _ | refine dW ?_ | refine dA ?_ _)); exact BK328.out)) (below_size (by repeat (first | (with_reducible first | exact HB.out | apply bA | apply bN | apply bD | refine bS ?_ GE328.out) | exact HB.out)))); replace BK328 := qcb hb BK328; replace HB := Aside0.mk (below_step (by repeat (first | (with_reducible first | exact HB.out | apply bA | apply bN | apply bD | refine bS ?_ GE328.out) | exact HB.out)) hb); (try clear hb); (try clear hb2); (try clear hk); (try clear hi); (try clear ho0); have hcz13_0 : w12.cell? ⟨gb328, 0, none⟩ = some (.int .i64 a1_0) := (blk_cell BK328.out 0).trans rfl; have hcz13_1 : w12.cell? ⟨gb328, 1, none⟩ = some (.int .i64 a1_1) := (blk_cell BK328.out 1).trans rfl; have hcz13_2 : w12.cell? ⟨gb328, 2, none⟩ = some (.int .i64 a1_2) := (blk_cell BK328.out 2).trans rfl; have hcz13_3 : w12.cell? ⟨gb328, 3, none⟩ = some (.int .i64 a1_3) := (blk_cell BK328.out 3).trans rfl; have hcz13_4 : w12.cell? ⟨gb328, 4, none⟩ = some (.int .i64 a1_4) := (blk_cell BK328.out 4).trans rfl; have hcz13_5 : w12.cell? ⟨gb328, 5, none⟩ = some (.int .i64 a1_5) := (blk_cell BK328.out 5).trans rfl; have hcz13_6 : w12.cell? ⟨gb328, 6, none⟩ = some (.int .i64 a1_6) := (blk_cell BK328.out 6).trans rfl; have hcz13_7 : w12.cell? ⟨gb328, 7, none⟩ = some (.int .i64 a1_7) := (blk_cell BK328.out 7).trans rfl; have hfz13_0 := blk_frozen BK328.out 0; have hfz13_1 := blk_frozen BK328.out 1; have hfz13_2 := blk_frozen BK328.out 2; have hfz13_3 := blk_frozen BK328.out 3; have hfz13_4 := blk_frozen BK328.out 4; have hfz13_5 := blk_frozen BK328.out 5; have hfz13_6 := blk_frozen BK328.out 6; have hfz13_7 := blk_frozen BK328.out 7) | (go_at_call 17; (with_reducible refine (impl_FindThing.calls k _ _ l0 a1_0 t332 _ ?side1 ?side2 A4.out).mono ?_); (case side1 => repeat (first | exact (Kd.C_below HR0.out HB.out) | (with_reducible refine cA ?_ _) | (with_reducible refine cN ?_ _) | (with_reducible refine cD ?_))); (case side2 => exact HC0.out); rintro e w14 ⟨rfl, hb⟩; replace HO331 := Aside0.mk (Kd.R_below (by (with_reducible repeat (first | apply rA | apply rN | apply rD)); exact HO331.out) hb); replace BK328 := qcb hb BK328; replace HB := Aside0.mk (below_step (by repeat (first | (with_reducible first | exact HB.out | apply bA | apply bN | apply bD | refine bS ?_ GE328.out) | exact HB.out)) hb); (try clear hb); (try clear hb2); (try clear hk); (try clear hi)))
  (try simp only [Act.put, sA, sB, sC])
  go_cut [7] (fun v7 wc => ∃ (kq : Nat) (x7_9 : Int), v7 = .int .i64 x7_9 ∧ Aside0 (impl_PutFind.j1 kq l0 t329 x7_9 a1_0 a1_1 a1_2 a1_3 a1_4 a1_5 a1_6 a1_7 = some (r1, r2)) ∧ Aside0 (kq ≤ k) ∧ Aside0 (Kd.R k31 31 wc w.heap.size (fun k_ => k_ ≠ gb328) v330 t329) ∧ Aside0 (wc.heap[gb328]? = some (.cells #[.int .i64 a1_0, .int .i64 a1_1, .int .i64 a1_2, .int .i64 a1_3, .int .i64 a1_4, .int .i64 a1_5, .int .i64 a1_6, .int .i64 a1_7] 31 (0, 0))) ∧ Aside0 (Below w.heap.size w wc))
  case first =>
   have H := HC10.out
   clear HC10
   have H' := Aside0.mk H
   clear H
   go_wp2
   repeat (go_quiet (fail); try go_wp2)
   go_loopg [7] k (fun kq v7 w' => ∃ (x7_1 : Int), v7 = .int .i64 x7_1 ∧ Aside0 (impl_PutFind.l0 kq l0 t329 x7_1 a1_0 a1_1 a1_2 a1_3 a1_4 a1_5 a1_6 a1_7 = some (r1, r2)) ∧ Aside0 (kq ≤ k) ∧ Aside0 (Kd.R k31 31 w' w.heap.size (fun k_ => k_ ≠ gb328) v330 t329) ∧ Aside0 (w'.heap[gb328]? = some (.cells #[.int .i64 a1_0, .int .i64 a1_1, .int .i64 a1_2, .int .i64 a1_3, .int .i64 a1_4, .int .i64 a1_5, .int .i64 a1_6, .int .i64 a1_7] 31 (0, 0))) ∧ Aside0 (Below w.heap.size w w'))
   case atStart => exact ⟨(0), (by first | rfl | (simp; done) | (simp [*]; done)), H', ⟨Nat.le_refl _⟩, ⟨by (with_reducible repeat (first | apply rA | apply rN | apply rD)); exact Kd.R_mono HO331.out (fun _ hk => hk.2)⟩, ⟨by (with_reducible repeat (first | refine dN ?_ _ | refine dW ?_ | refine dA ?_ _)); exact BK328.out⟩, ⟨by repeat (first | (with_reducible first | exact HB.out | apply bA | apply bN | apply bD | refine bS ?_ GE328.out) | exact HB.out)⟩⟩
   case round =>
    clear H'
    try clear c1
    try clear p2
    try clear c5
    try clear c5b0
    try clear hcz13_0
    try clear hcz13_1
    try clear hcz13_2
    try clear hcz13_3
    try clear hcz13_4
    try clear hcz13_5
    try clear hcz13_6
    try clear hcz13_7
    try clear hcz8_0
    try clear hcz8_1
    try clear hcz8_2
    try clear hcz8_3
    try clear hcz8_4
    try clear hcz8_5
    try clear hcz8_6
    try clear hcz8_7
    try clear hfz13_0
    try clear hfz13_1
    try clear hfz13_2
    try clear hfz13_3
    try clear hfz13_4
    try clear hfz13_5
    try clear hfz13_6
    try clear hfz13_7
    try clear hfz8_0
    try clear hfz8_1
    try clear hfz8_2
    try clear hfz8_3
    try clear hfz8_4
    try clear hfz8_5
    try clear hfz8_6
    try clear hfz8_7
    obtain ⟨x7_1, rfl, HA, HK1, HO_6, BK328, HB⟩ := hrel
    cases gk with
    | zero => exact absurd HA.out (by simp [impl_PutFind.l0])
    | succ k1 =>
     have H := HA.out
     clear HA
     simp only [impl_PutFind.l0] at H
     by_cases c15 : x7_1 < (l0.length : Int)
     ·rw [if_pos c15] at H
      have c15b0 : decide (x7_1 < (l0.length : Int)) = true := decide_eq_true c15
      clear c15
      (first | rw [c15b0] | (simp only [i64_w, i32_w]; rw [c15b0]) | skip)
      by_cases c16 : 0 ≤ x7_1
      ·rw [if_pos c16] at H
       have c16b0 : decide (0 ≤ x7_1) = true := decide_eq_true c16
       clear c16
       by_cases c17 : ((rd_T31 l0 x7_1).f0.f0) < a1_0
       ·rw [if_pos c17] at H
        have c17b0 : decide (((rd_T31 l0 x7_1).f0.f0) < a1_0) = true := decide_eq_true c17
        clear c17
        have H' := Aside0.mk H
        clear H
        have p333 : 0 ≤ (x7_1 : Int) := of_decide_eq_true (by first | (with_reducible assumption) | assumption)
        have q333 : x7_1 < (l0.length : Int) := of_decide_eq_true (by first | (with_reducible assumption) | assumption)
        obtain ⟨ad333, e333, hx333_0, hx333_1, hx333_2, hx333_3, hx333_4, hx333_5, hx333_6, hx333_7⟩ := at_T31 HR0.out x7_1 p333 q333
        cases e333
        replace hx333_0 := (HB.out.cell (World.block_lt_of_cell? w _ hx333_0)).trans hx333_0
        replace hx333_1 := (HB.out.cell (World.block_lt_of_cell? w _ hx333_1)).trans hx333_1
        replace hx333_2 := (HB.out.cell (World.block_lt_of_cell? w _ hx333_2)).trans hx333_2
        replace hx333_3 := (HB.out.cell (World.block_lt_of_cell? w _ hx333_3)).trans hx333_3
        replace hx333_4 := (HB.out.cell (World.block_lt_of_cell? w _ hx333_4)).trans hx333_4
        replace hx333_5 := (HB.out.cell (World.block_lt_of_cell? w _ hx333_5)).trans hx333_5
        replace hx333_6 := (HB.out.cell (World.block_lt_of_cell? w _ hx333_6)).trans hx333_6
        replace hx333_7 := (HB.out.cell (World.block_lt_of_cell? w _ hx333_7)).trans hx333_7
        replace p333 := eq_true p333
        replace q333 := eq_true q333
        have hcz18_0 : wr.cell? ⟨gb328, 0, none⟩ = some (.int .i64 a1_0) := (blk_cell BK328.out 0).trans rfl
        have hcz18_1 : wr.cell? ⟨gb328, 1, none⟩ = some (.int .i64 a1_1) := (blk_cell BK328.out 1).trans rfl
        have hcz18_2 : wr.cell? ⟨gb328, 2, none⟩ = some (.int .i64 a1_2) := (blk_cell BK328.out 2).trans rfl
        have hcz18_3 : wr.cell? ⟨gb328, 3, none⟩ = some (.int .i64 a1_3) := (blk_cell BK328.out 3).trans rfl
        have hcz18_4 : wr.cell? ⟨gb328, 4, none⟩ = some (.int .i64 a1_4) := (blk_cell BK328.out 4).trans rfl
        have hcz18_5 : wr.cell? ⟨gb328, 5, none⟩ = some (.int .i64 a1_5) := (blk_cell BK328.out 5).trans rfl
        have hcz18_6 : wr.cell? ⟨gb328, 6, none⟩ = some (.int .i64 a1_6) := (blk_cell BK328.out 6).trans rfl
        have hcz18_7 : wr.cell? ⟨gb328, 7, none⟩ = some (.int .i64 a1_7) := (blk_cell BK328.out 7).trans rfl
        have hfz18_0 := blk_frozen BK328.out 0
        have hfz18_1 := blk_frozen BK328.out 1
        have hfz18_2 := blk_frozen BK328.out 2
        have hfz18_3 := blk_frozen BK328.out 3
        have hfz18_4 := blk_frozen BK328.out 4
        have hfz18_5 := blk_frozen BK328.out 5
        have hfz18_6 := blk_frozen BK328.out 6
        have hfz18_7 := blk_frozen BK328.out 7
        go_wp2
        repeat (go_quiet (fail); try go_wp2)
        go_roundg k1
        case measure => have := HK1.out; omega
        case rel => exact ⟨(wrap64 (x7_1 + 1)), (by first | rfl | (simp; done) | (simp [*]; done)), H', ⟨by have := HK1.out; omega⟩, ⟨by (with_reducible repeat (first | apply rA | apply rN | apply rD)); exact HO_6.out⟩, ⟨by (with_reducible repeat (first | refine dN ?_ _ | refine dW ?_ | refine dA ?_ _)); exact BK328.out⟩, ⟨by repeat (first | (with_reducible first | exact HB.out | apply bA | apply bN | apply bD | refine bS ?_ GE328.out) | exact HB.out)⟩⟩
       ·rw [if_neg c17] at H
        have c17b0 : decide (((rd_T31 l0 x7_1).f0.f0) < a1_0) = false := decide_eq_false c17
        clear c17
        have H' := Aside0.mk H
        clear H
        have p333 : 0 ≤ (x7_1 : Int) := of_decide_eq_true (by first | (with_reducible assumption) | assumption)
        have q333 : x7_1 < (l0.length : Int) := of_decide_eq_true (by first | (with_reducible assumption) | assumption)
        obtain ⟨ad333, e333, hx333_0, hx333_1, hx333_2, hx333_3, hx333_4, hx333_5, hx333_6, hx333_7⟩ := at_T31 HR0.out x7_1 p333 q333
        cases e333
        replace hx333_0 := (HB.out.cell (World.block_lt_of_cell? w _ hx333_0)).trans hx333_0
        replace hx333_1 := (HB.out.cell (World.block_lt_of_cell? w _ hx333_1)).trans hx333_1
        replace hx333_2 := (HB.out.cell (World.block_lt_of_cell? w _ hx333_2)).trans hx333_2
        replace hx333_3 := (HB.out.cell (World.block_lt_of_cell? w _ hx333_3)).trans hx333_3
        replace hx333_4 := (HB.out.cell (World.block_lt_of_cell? w _ hx333_4)).trans hx333_4
        replace hx333_5 := (HB.out.cell (World.block_lt_of_cell? w _ hx333_5)).trans hx333_5
        replace hx333_6 := (HB.out.cell (World.block_lt_of_cell? w _ hx333_6)).trans hx333_6
        replace hx333_7 := (HB.out.cell (World.block_lt_of_cell? w _ hx333_7)).trans hx333_7
        replace p333 := eq_true p333
        replace q333 := eq_true q333
        have hcz19_0 : wr.cell? ⟨gb328, 0, none⟩ = some (.int .i64 a1_0) := (blk_cell BK328.out 0).trans rfl
        have hcz19_1 : wr.cell? ⟨gb328, 1, none⟩ = some (.int .i64 a1_1) := (blk_cell BK328.out 1).trans rfl
        have hcz19_2 : wr.cell? ⟨gb328, 2, none⟩ = some (.int .i64 a1_2) := (blk_cell BK328.out 2).trans rfl
        have hcz19_3 : wr.cell? ⟨gb328, 3, none⟩ = some (.int .i64 a1_3) := (blk_cell BK328.out 3).trans rfl
        have hcz19_4 : wr.cell? ⟨gb328, 4, none⟩ = some (.int .i64 a1_4) := (blk_cell BK328.out 4).trans rfl
        have hcz19_5 : wr.cell? ⟨gb328, 5, none⟩ = some (.int .i64 a1_5) := (blk_cell BK328.out 5).trans rfl
        have hcz19_6 : wr.cell? ⟨gb328, 6, none⟩ = some (.int .i64 a1_6) := (blk_cell BK328.out 6).trans rfl
        have hcz19_7 : wr.cell? ⟨gb328, 7, none⟩ = some (.int .i64 a1_7) := (blk_cell BK328.out 7).trans rfl
        have hfz19_0 := blk_frozen BK328.out 0
        have hfz19_1 := blk_frozen BK328.out 1
        have hfz19_2 := blk_frozen BK328.out 2
        have hfz19_3 := blk_frozen BK328.out 3
        have hfz19_4 := blk_frozen BK328.out 4
        have hfz19_5 := blk_frozen BK328.out 5
        have hfz19_6 := blk_frozen BK328.out 6
        have hfz19_7 := blk_frozen BK328.out 7
        go_wp2
        repeat (go_quiet (fail); try go_wp2)
        go_meet
        case rel => exact ⟨_, (x7_1), (by first | rfl | (simp; done) | (simp [*]; done)), H', ⟨by have := HK1.out; first | omega | exact Nat.le_refl _⟩, ⟨by (with_reducible repeat (first | apply rA | apply rN | apply rD)); exact HO_6.out⟩, ⟨by (with_reducible repeat (first | refine dN ?_ _ | refine dW ?_ | refine dA ?_ _)); exact BK328.out⟩, ⟨by repeat (first | (with_reducible first | exact HB.out | apply bA | apply bN | apply bD | refine bS ?_ GE328.out) | exact HB.out)⟩⟩
      ·rw [if_neg c16] at H
       exact absurd H (by simp)
     ·rw [if_neg c15] at H
      have c15b0 : decide (x7_1 < (l0.length : Int)) = false := decide_eq_false c15
      clear c15
      (first | rw [c15b0] | (simp only [i64_w, i32_w]; rw [c15b0]) | skip)
      have H' := Aside0.mk H
      clear H
      go_wp2
      repeat (go_quiet (fail); try go_wp2)
      go_meet
      case rel => exact ⟨_, (x7_1), (by first | rfl | (simp; done) | (simp [*]; done)), H', ⟨by have := HK1.out; first | omega | exact Nat.le_refl _⟩, ⟨by (with_reducible repeat (first | apply rA | apply rN | apply rD)); exact HO_6.out⟩, ⟨by (with_reducible repeat (first | refine dN ?_ _ | refine dW ?_ | refine dA ?_ _)); exact BK328.out⟩, ⟨by repeat (first | (with_reducible first | exact HB.out | apply bA | apply bN | apply bD | refine bS ?_ GE328.out) | exact HB.out)⟩⟩
  case rest =>
   clear HC10
   try clear c1
   try clear p2
   try clear p3
   try clear q3
   try clear hx3
   try clear c5
   try clear c5b0
   try clear p6
   try clear c15
   try clear c15b0
   try clear c16
   try clear c16b0
   try clear c17
   try clear c17b0
   try clear hcz13_0
   try clear hcz13_1
   try clear hcz13_2
   try clear hcz13_3
   try clear hcz13_4
   try clear hcz13_5
   try clear hcz13_6
   try clear hcz13_7
   try clear hcz18_0
   try clear hcz18_1
   try clear hcz18_2
   try clear hcz18_3
   try clear hcz18_4
   try clear hcz18_5
   try clear hcz18_6
   try clear hcz18_7
   try clear hcz19_0
   try clear hcz19_1
   try clear hcz19_2
   try clear hcz19_3
   try clear hcz19_4
   try clear hcz19_5
   try clear hcz19_6
   try clear hcz19_7
   try clear hcz8_0
   try clear hcz8_1
   try clear hcz8_2
   try clear hcz8_3
   try clear hcz8_4
   try clear hcz8_5
   try clear hcz8_6
   try clear hcz8_7
   try clear hfz13_0
   try clear hfz13_1
   try clear hfz13_2
   try clear hfz13_3
   try clear hfz13_4
   try clear hfz13_5
   try clear hfz13_6
   try clear hfz13_7
   try clear hfz18_0
   try clear hfz18_1
   try clear hfz18_2
   try clear hfz18_3
   try clear hfz18_4
   try clear hfz18_5
   try clear hfz18_6
   try clear hfz18_7
   try clear hfz19_0
   try clear hfz19_1
   try clear hfz19_2
   try clear hfz19_3
   try clear hfz19_4
   try clear hfz19_5
   try clear hfz19_6
   try clear hfz19_7
   try clear hfz8_0
   try clear hfz8_1
   try clear hfz8_2
   try clear hfz8_3
   try clear hfz8_4
   try clear hfz8_5
   try clear hfz8_6
   try clear hfz8_7
   try clear hx333_0
   try clear hx333_1
   try clear hx333_2
   try clear hx333_3
   try clear hx333_4
   try clear hx333_5
   try clear hx333_6
   try clear hx333_7
   try clear p2
   try clear p333
   try clear q333
   obtain ⟨kq, x7_9, rfl, HA, HJ9, HO_6, BK328, HB⟩ := hcut
   cases kq with
   | zero => exact absurd HA.out (by simp [impl_PutFind.j1])
   | succ kj9 =>
    have H := HA.out
    clear HA
    simp only [impl_PutFind.j1] at H
    obtain ⟨y334, hy334⟩ : ∃ y_ : List (S31), y_ = (([(⟨(⟨a1_0, a1_1, a1_2, a1_3, a1_4⟩ : S29), a1_5, a1_6, a1_7⟩ : S31)] : List (S31))) := ⟨_, rfl⟩
    replace H : ((impl_Find_42.f t329 x7_9 y334).bind fun t337 => ((impl_AreFinds.f kj9 t337).bind fun t340 => (if t340 = true then (some (t337, true)) else ((impl_Find_41.f l0).bind fun t341 => (some (t341, false)))))) = some (r1, r2) := by first | (rw [hy334]; with_reducible exact H) | (have H2_ := (Option.bind_some _ _).symm.trans H; rw [hy334]; with_reducible exact H2_) | (have H2_ := (Option.bind_some _ _).symm.trans H; with_reducible exact H2_) | with_reducible exact H | (rw [hy334]; exact H) | exact H
    have Ny334 := Aside0.mk hy334
    clear hy334
    replace H := obm H
    obtain ⟨t337, A200, H⟩ := H
    replace H : ((impl_AreFinds.f kj9 t337).bind fun t340 => (if t340 = true then (some (t337, true)) else ((impl_Find_41.f l0).bind fun t341 => (some (t341, false))))) = some (r1, r2) := H
    have A20 := Aside0.mk A200
    clear A200
    replace H := obm H
    obtain ⟨t340, A210, H⟩ := H
    replace H : (if t340 = true then (some (t337, true)) else ((impl_Find_41.f l0).bind fun t341 => (some (t341, false)))) = some (r1, r2) := H
    have A21 := Aside0.mk A210
    clear A210
    by_cases c22 : t340 = true
    ·subst c22
     have H1 : (some (t337, true)) = some (r1, r2) := by rw [if_pos rfl] at H; exact H
     clear H
     have H := H1
     clear H1
     simp only [Option.some.injEq, Prod.mk.injEq] at H
     obtain ⟨rfl, rfl⟩ := H
     have hcz23_0 : wc.cell? ⟨gb328, 0, none⟩ = some (.int .i64 a1_0) := (blk_cell BK328.out 0).trans rfl
     have hcz23_1 : wc.cell? ⟨gb328, 1, none⟩ = some (.int .i64 a1_1) := (blk_cell BK328.out 1).trans rfl
     have hcz23_2 : wc.cell? ⟨gb328, 2, none⟩ = some (.int .i64 a1_2) := (blk_cell BK328.out 2).trans rfl
     have hcz23_3 : wc.cell? ⟨gb328, 3, none⟩ = some (.int .i64 a1_3) := (blk_cell BK328.out 3).trans rfl
     have hcz23_4 : wc.cell? ⟨gb328, 4, none⟩ = some (.int .i64 a1_4) := (blk_cell BK328.out 4).trans rfl
     have hcz23_5 : wc.cell? ⟨gb328, 5, none⟩ = some (.int .i64 a1_5) := (blk_cell BK328.out 5).trans rfl
     have hcz23_6 : wc.cell? ⟨gb328, 6, none⟩ = some (.int .i64 a1_6) := (blk_cell BK328.out 6).trans rfl
     have hcz23_7 : wc.cell? ⟨gb328, 7, none⟩ = some (.int .i64 a1_7) := (blk_cell BK328.out 7).trans rfl
     have hfz23_0 := blk_frozen BK328.out 0
     have hfz23_1 := blk_frozen BK328.out 1
     have hfz23_2 := blk_frozen BK328.out 2
     have hfz23_3 := blk_frozen BK328.out 3
     have hfz23_4 := blk_frozen BK328.out 4
     have hfz23_5 := blk_frozen BK328.out 5
     have hfz23_6 := blk_frozen BK328.out 6
     have hfz23_7 := blk_frozen BK328.out 7
     go_wp2_with (first | ((with_reducible refine gate_dst (N := 38) rfl ?_); refine Kd.R_lit k31 _ 31 ?hg (N := 38) ?hd (xs := ([(⟨(⟨a1_0, a1_1, a1_2, a1_3, a1_4⟩ : S29), a1_5, a1_6, a1_7⟩ : S31)] : List (S31))) (inner := [.int .i64 a1_0, .int .i64 a1_1, .int .i64 a1_2, .int .i64 a1_3, .int .i64 a1_4, .int .i64 a1_5, .int .i64 a1_6, .int .i64 a1_7]) (ok := fun _ => True) (okp := fun _ => True) ?hr ?hp (fun _ hk => hk) trivial (Below.refl _ _) (Nat.le_refl _) (by simp) ?_; (case hd => rfl); (case hg => rfl); (case hr => first | (go_simp; done) | (go_simp; rfl)); (case hp => exact (Reps.c8 (show Kd.M k31 _ _ _ (⟨(⟨a1_0, a1_1, a1_2, a1_3, a1_4⟩ : S29), a1_5, a1_6, a1_7⟩ : S31) [.int .i64 a1_0, .int .i64 a1_1, .int .i64 a1_2, .int .i64 a1_3, .int .i64 a1_4, .int .i64 a1_5, .int .i64 a1_6, .int .i64 a1_7] from (k31_mkM _ _ _ (⟨(⟨a1_0, a1_1, a1_2, a1_3, a1_4⟩ : S29), a1_5, a1_6, a1_7⟩ : S31) )) (Reps.none _ _))); intro v335 w24 ho25 hb hg_ hnew_; clear hg_ hnew_; (first | rw [← Ny334.out] at ho25 | (simp only [Int.reduceToNat] at ho25; rw [← Ny334.out] at ho25)); have HO336 := Aside0.mk (Kd.R_lower (Kd.R_newB (Kd.R_new' ho25 (Kd.R_lt (by (with_reducible repeat (first | apply rA | apply rN | apply rD)); exact HO_6.out))) (g := gb328) (o := .cells #[.int .i64 a1_0, .int .i64 a1_1, .int .i64 a1_2, .int .i64 a1_3, .int .i64 a1_4, .int .i64 a1_5, .int .i64 a1_6, .int .i64 a1_7] 31 (0, 0)) (by (with_reducible repeat (first | refine dN ?_ _ | refine dW ?_ | refine dA ?_ _)); exact BK328.out)) (below_size (by repeat (first | (with_reducible first | exact HB.out | apply bA | apply bN | apply bD | refine bS ?_ GE328.out) | exact HB.out)))); replace HO_6 := Aside0.mk (Kd.R_elder' (by (with_reducible repeat (first | apply rA | apply rN | apply rD)); exact HO_6.out) (Kd.R_base ho25) hb); replace BK328 := qcb hb BK328; replace HB := Aside0.mk (below_step (by repeat (first | (with_reducible first | exact HB.out | apply bA | apply bN | apply bD | refine bS ?_ GE328.out) | exact HB.out)) hb); clear hb ho25; obtain ⟨Ao26, co26, eo26⟩ := Kd.R_slice HO_6.out; subst eo26; obtain ⟨Ao27, co27, eo27⟩ := Kd.R_slice HO336.out; subst eo27) | (go_at_call 42; (with_reducible refine (impl_Find_42.calls (fun k_ => some k_ = (.slice Ao26 t329.length co26 : Value).ownBlock) (.slice Ao26 t329.length co26) t329 x7_9 _ _ y334 t337 w _ ?side1 ?side2 ?side3 ?side4 A20.out).mono ?_); (case side1 => repeat (first | (with_reducible first | exact HB.out | apply bA | apply bN | apply bD | refine bS ?_ GE328.out) | exact HB.out)); (case side2 => exact Kd.R_tight rfl HO_6.out); (case side3 => exact ⟨_, _, rfl, HO336.out, (fun k_ hk_ hs_ => (hk_.1.2) hs_)⟩); (case side4 => exact (Kd.R_reads' HO336.out).2.1); rintro e w28 ⟨v338, rfl, ho0, hb, hkp⟩; have HO339 := Aside0.mk (Kd.R_mono (ok' := fun k_ => some k_ ≠ (.slice Ao27 y334.length co27 : Value).ownBlock ∧ k_ ≠ gb328) ho0 (fun k_ hk_ => ⟨Or.elim hk_ (fun hs_ => fun e_ => (((HO336.out).1 k_ e_.symm).1.2) hs_) (fun hn_ => (Kd.fresh' (Kd.R_lt (by (with_reducible repeat (first | apply rA | apply rN | apply rD)); exact HO336.out)) k_ hn_)), Or.elim hk_ (fun hs_ => fun e_ => (Kd.R_away HO_6.out (fun _ hk => hk.1)) (by rw [← e_]; exact hs_)) (fun hn_ => (Kd.freshB (g := gb328) (o := .cells #[.int .i64 a1_0, .int .i64 a1_1, .int .i64 a1_2, .int .i64 a1_3, .int .i64 a1_4, .int .i64 a1_5, .int .i64 a1_6, .int .i64 a1_7] 31 (0, 0)) (by (with_reducible repeat (first | refine dN ?_ _ | refine dW ?_ | refine dA ?_ _)); exact BK328.out) k_ hn_))⟩)); replace BK328 := Aside0.mk (blk_kept (by (with_reducible repeat (first | refine dN ?_ _ | refine dW ?_ | refine dA ?_ _)); exact BK328.out) hkp (fun hs_ => (fun e_ => (Kd.R_away HO_6.out (fun _ hk => hk.1)) e_) hs_)); replace HO336 := Aside0.mk (Kd.R_mono (ok' := fun k_ => k_ ≠ gb328 ∧ some k_ ≠ (v338 : Value).ownBlock) (Kd.R_keptB (HO336.out) hkp (fun k_ hk_ hs_ => (hk_.1.2) hs_)) (fun k_ hk_ => ⟨hk_.1.2, fun e_ => Or.elim (ho0.1 k_ e_.symm) (fun hs_ => hk_.2.1 hs_) (fun hn_ => Nat.not_le.2 hk_.2.2 hn_)⟩)); replace HB := Aside0.mk (hb); clear HO_6; (try clear hb); (try clear hkp); (try clear ho0); obtain ⟨Ao29, co29, eo29⟩ := Kd.R_slice HO339.out; subst eo29) | (go_at_call 16; (with_reducible refine (impl_AreFinds.calls kj9 _ _ t337 true _ ?side1 ?side2 A21.out).mono ?_); (case side1 => repeat (first | exact (Kd.R_reads' HO339.out).2.2 | (with_reducible refine cA ?_ _) | (with_reducible refine cN ?_ _) | (with_reducible refine cD ?_))); (case side2 => exact (Kd.R_reads' HO339.out).2.1); rintro e w30 ⟨rfl, hb⟩; replace HO336 := Aside0.mk (Kd.R_below (by (with_reducible repeat (first | apply rA | apply rN | apply rD)); exact HO336.out) hb); replace HO339 := Aside0.mk (Kd.R_below (by (with_reducible repeat (first | apply rA | apply rN | apply rD)); exact HO339.out) hb); replace BK328 := qcb hb BK328; replace HB := Aside0.mk (below_step (by repeat (first | (with_reducible first | exact HB.out | apply bA | apply bN | apply bD | refine bS ?_ GE328.out) | exact HB.out)) hb); (try clear hb); (try clear hb2); (try clear hk); (try clear hi)))
     go_ret2
     exact ⟨_, by first | rfl | (simp [errW_none, errW_some] <;> rfl) | (simp [*, errW_none, errW_some] <;> rfl), by (with_reducible repeat (first | apply rA | apply rN | apply rD)); exact Kd.R_mono HO339.out (fun _ hk => trivial), by repeat (first | (with_reducible first | exact HB.out | apply bA | apply bN | apply bD | refine bS ?_ GE328.out) | exact HB.out)⟩
    ·replace c22 := Bool.eq_false_iff.mpr c22
     subst c22
     have H1 : ((impl_Find_41.f l0).bind fun t341 => (some (t341, false))) = some (r1, r2) := by rw [if_neg (show ¬ (false = true) by decide)] at H; exact H
     clear H
     have H := H1
     clear H1
     replace H := obm H
     obtain ⟨t341, A310, H⟩ := H
     replace H : (some (t341, false)) = some (r1, r2) := H
     have A31 := Aside0.mk A310
     clear A310
     simp only [Option.some.injEq, Prod.mk.injEq] at H
     obtain ⟨rfl, rfl⟩ := H
     have hcz32_0 : wc.cell? ⟨gb328, 0, none⟩ = some (.int .i64 a1_0) := (blk_cell BK328.out 0).trans rfl
     have hcz32_1 : wc.cell? ⟨gb328, 1, none⟩ = some (.int .i64 a1_1) := (blk_cell BK328.out 1).trans rfl
     have hcz32_2 : wc.cell? ⟨gb328, 2, none⟩ = some (.int .i64 a1_2) := (blk_cell BK328.out 2).trans rfl
     have hcz32_3 : wc.cell? ⟨gb328, 3, none⟩ = some (.int .i64 a1_3) := (blk_cell BK328.out 3).trans rfl
     have hcz32_4 : wc.cell? ⟨gb328, 4, none⟩ = some (.int .i64 a1_4) := (blk_cell BK328.out 4).trans rfl
     have hcz32_5 : wc.cell? ⟨gb328, 5, none⟩ = some (.int .i64 a1_5) := (blk_cell BK328.out 5).trans rfl
     have hcz32_6 : wc.cell? ⟨gb328, 6, none⟩ = some (.int .i64 a1_6) := (blk_cell BK328.out 6).trans rfl
     have hcz32_7 : wc.cell? ⟨gb328, 7, none⟩ = some (.int .i64 a1_7) := (blk_cell BK328.out 7).trans rfl
     have hfz32_0 := blk_frozen BK328.out 0
     have hfz32_1 := blk_frozen BK328.out 1
     have hfz32_2 := blk_frozen BK328.out 2
     have hfz32_3 := blk_frozen BK328.out 3
     have hfz32_4 := blk_frozen BK328.out 4
     have hfz32_5 := blk_frozen BK328.out 5
     have hfz32_6 := blk_frozen BK328.out 6
     have hfz32_7 := blk_frozen BK328.out 7
     go_wp2_with (first | ((with_reducible refine gate_dst (N := 38) rfl ?_); refine Kd.R_lit k31 _ 31 ?hg (N := 38) ?hd (xs := ([(⟨(⟨a1_0, a1_1, a1_2, a1_3, a1_4⟩ : S29), a1_5, a1_6, a1_7⟩ : S31)] : List (S31))) (inner := [.int .i64 a1_0, .int .i64 a1_1, .int .i64 a1_2, .int .i64 a1_3, .int .i64 a1_4, .int .i64 a1_5, .int .i64 a1_6, .int .i64 a1_7]) (ok := fun _ => True) (okp := fun _ => True) ?hr ?hp (fun _ hk => hk) trivial (Below.refl _ _) (Nat.le_refl _) (by simp) ?_; (case hd => rfl); (case hg => rfl); (case hr => first | (go_simp; done) | (go_simp; rfl)); (case hp => exact (Reps.c8 (show Kd.M k31 _ _ _ (⟨(⟨a1_0, a1_1, a1_2, a1_3, a1_4⟩ : S29), a1_5, a1_6, a1_7⟩ : S31) [.int .i64 a1_0, .int .i64 a1_1, .int .i64 a1_2, .int .i64 a1_3, .int .i64 a1_4, .int .i64 a1_5, .int .i64 a1_6, .int .i64 a1_7] from (k31_mkM _ _ _ (⟨(⟨a1_0, a1_1, a1_2, a1_3, a1_4⟩ : S29), a1_5, a1_6, a1_7⟩ : S31) )) (Reps.none _ _))); intro v335 w33 ho34 hb hg_ hnew_; clear hg_ hnew_; (first | rw [← Ny334.out] at ho34 | (simp only [Int.reduceToNat] at ho34; rw [← Ny334.out] at ho34)); have HO336 := Aside0.mk (Kd.R_lower (Kd.R_newB (Kd.R_new' ho34 (Kd.R_lt (by (with_reducible repeat (first | apply rA | apply rN | apply rD)); exact HO_6.out))) (g := gb328) (o := .cells #[.int .i64 a1_0, .int .i64 a1_1, .int .i64 a1_2, .int .i64 a1_3, .int .i64 a1_4, .int .i64 a1_5, .int .i64 a1_6, .int .i64 a1_7] 31 (0, 0)) (by (with_reducible repeat (first | refine dN ?_ _ | refine dW ?_ | refine dA ?_ _)); exact BK328.out)) (below_size (by repeat (first | (with_reducible first | exact HB.out | apply bA | apply bN | apply bD | refine bS ?_ GE328.out) | exact HB.out)))); replace HO_6 := Aside0.mk (Kd.R_elder' (by (with_reducible repeat (first | apply rA | apply rN | apply rD)); exact HO_6.out) (Kd.R_base ho34) hb); replace BK328 := qcb hb BK328; replace HB := Aside0.mk (below_step (by repeat (first | (with_reducible first | exact HB.out | apply bA | apply bN | apply bD | refine bS ?_ GE328.out) | exact HB.out)) hb); clear hb ho34; obtain ⟨Ao35, co35, eo35⟩ := Kd.R_slice HO_6.out; subst eo35; obtain ⟨Ao36, co36, eo36⟩ := Kd.R_slice HO336.out; subst eo36) | (go_at_call 42; (with_reducible refine (impl_Find_42.calls (fun k_ => some k_ = (.slice Ao35 t329.length co35 : Value).ownBlock) (.slice Ao35 t329.length co35) t329 x7_9 _ _ y334 t337 w _ ?side1 ?side2 ?side3 ?side4 A20.out).mono ?_); (case side1 => repeat (first | (with_reducible first | exact HB.out | apply bA | apply bN | apply bD | refine bS ?_ GE328.out) | exact HB.out)); (case side2 => exact Kd.R_tight rfl HO_6.out); (case side3 => exact ⟨_, _, rfl, HO336.out, (fun k_ hk_ hs_ => (hk_.1.2) hs_)⟩); (case side4 => exact (Kd.R_reads' HO336.out).2.1); rintro e w37 ⟨v338, rfl, ho0, hb, hkp⟩; have HO339 := Aside0.mk (Kd.R_mono (ok' := fun k_ => some k_ ≠ (.slice Ao36 y334.length co36 : Value).ownBlock ∧ k_ ≠ gb328) ho0 (fun k_ hk_ => ⟨Or.elim hk_ (fun hs_ => fun e_ => (((HO336.out).1 k_ e_.symm).1.2) hs_) (fun hn_ => (Kd.fresh' (Kd.R_lt (by (with_reducible repeat (first | apply rA | apply rN | apply rD)); exact HO336.out)) k_ hn_)), Or.elim hk_ (fun hs_ => fun e_ => (Kd.R_away HO_6.out (fun _ hk => hk.1)) (by rw [← e_]; exact hs_)) (fun hn_ => (Kd.freshB (g := gb328) (o := .cells #[.int .i64 a1_0, .int .i64 a1_1, .int .i64 a1_2, .int .i64 a1_3, .int .i64 a1_4, .int .i64 a1_5, .int .i64 a1_6, .int .i64 a1_7] 31 (0, 0)) (by (with_reducible repeat (first | refine dN ?_ _ | refine dW ?_ | refine dA ?_ _)); exact BK328.out) k_ hn_))⟩)); replace BK328 := Aside0.mk (blk_kept (by (with_reducible repeat (first | refine dN ?_ _ | refine dW ?_ | refine dA ?_ _)); exact BK328.out) hkp (fun hs_ => (fun e_ => (Kd.R_away HO_6.out (fun _ hk => hk.1)) e_) hs_)); replace HO336 := Aside0.mk (Kd.R_mono (ok' := fun k_ => k_ ≠ gb328 ∧ some k_ ≠ (v338 : Value).ownBlock) (Kd.R_keptB (HO336.out) hkp (fun k_ hk_ hs_ => (hk_.1.2) hs_)) (fun k_ hk_ => ⟨hk_.1.2, fun e_ => Or.elim (ho0.1 k_ e_.symm) (fun hs_ => hk_.2.1 hs_) (fun hn_ => Nat.not_le.2 hk_.2.2 hn_)⟩)); replace HB := Aside0.mk (hb); clear HO_6; (try clear hb); (try clear hkp); (try clear ho0); obtain ⟨Ao38, co38, eo38⟩ := Kd.R_slice HO339.out; subst eo38) | (go_at_call 16; (with_reducible refine (impl_AreFinds.calls kj9 _ _ t337 false _ ?side1 ?side2 A21.out).mono ?_); (case side1 => repeat (first | exact (Kd.R_reads' HO339.out).2.2 | (with_reducible refine cA ?_ _) | (with_reducible refine cN ?_ _) | (with_reducible refine cD ?_))); (case side2 => exact (Kd.R_reads' HO339.out).2.1); rintro e w39 ⟨rfl, hb⟩; replace HO336 := Aside0.mk (Kd.R_below (by (with_reducible repeat (first | apply rA | apply rN | apply rD)); exact HO336.out) hb); replace HO339 := Aside0.mk (Kd.R_below (by (with_reducible repeat (first | apply rA | apply rN | apply rD)); exact HO339.out) hb); replace BK328 := qcb hb BK328; replace HB := Aside0.mk (below_step (by repeat (first | (with_reducible first | exact HB.out | apply bA | apply bN | apply bD | refine bS ?_ GE328.out) | exact HB.out)) hb); (try clear hb); (try clear hb2); (try clear hk); (try clear hi)) | (go_at_call 41; (with_reducible refine (impl_Find_41.calls _ _ l0 t341 _ ?side1 ?side2 A31.out).mono ?_); (case side1 => repeat (first | exact (Kd.C_below HR0.out HB.out) | (with_reducible refine cA ?_ _) | (with_reducible refine cN ?_ _) | (with_reducible refine cD ?_))); (case side2 => exact HC0.out); rintro e w40 ⟨v342, rfl, ho0, hb⟩; have HO343 := Aside0.mk (Kd.R_lower (Kd.R_newB (Kd.R_new' (Kd.R_new' ho0 (Kd.R_lt (by (with_reducible repeat (first | apply rA | apply rN | apply rD)); exact HO336.out))) (Kd.R_lt (by (with_reducible repeat (first | apply rA | apply rN | apply rD)); exact HO339.out))) (g := gb328) (o := .cells #[.int .i64 a1_0, .int .i64 a1_1, .int .i64 a1_2, .int .i64 a1_3, .int .i64 a1_4, .int .i64 a1_5, .int .i64 a1_6, .int .i64 a1_7] 31 (0, 0)) (by (with_reducible repeat (first | refine dN ?_ _ | refine dW ?_ | refine dA ?_ _)); exact BK328.out)) (below_size (by repeat (first | (with_reducible first | exact HB.out | apply bA | apply bN | apply bD | refine bS ?_ GE328.out) | exact HB.out)))); replace HO336 := Aside0.mk (Kd.R_elder' (by (with_reducible repeat (first | apply rA | apply rN | apply rD)); exact HO336.out) (Kd.R_base ho0) hb); replace HO339 := Aside0.mk (Kd.R_elder' (by (with_reducible repeat (first | apply rA | apply rN | apply rD)); exact HO339.out) (Kd.R_base ho0) hb); replace BK328 := qcb hb BK328; replace HB := Aside0.mk (below_step (by repeat (first | (with_reducible first | exact HB.out | apply bA | apply bN | apply bD | refine bS ?_ GE328.out) | exact HB.out)) hb); (try clear hb); (try clear hb2); (try clear hk); (try clear hi); (try clear ho0)))
     go_ret2
     exact ⟨_, by first | rfl | (simp [errW_none, errW_some] <;> rfl) | (simp [*, errW_none, errW_some] <;> rfl), by (with_reducible repeat (first | apply rA | apply rN | apply rD)); exact Kd.R_mono HO343.out (fun _ hk => trivial), by repeat (first | (with_reducible first | exact HB.out | apply bA | apply bN | apply bD | refine bS ?_ GE328.out) | exact HB.out)⟩

/-! ### laws_contains: function 18 -/
def laws_contains.l0 : Nat → List Int → Int → Int → Option (Bool)
 | 0, _, _, _ => none
 | k + 1, x0, x1, x5 => if x5 < (x0.length : Int) then (if 0 ≤ x5 then (if (rd x0 x5) = x1 then (some true) else (laws_contains.l0 k x0 x1 (wrap64 (x5 + 1)))) else (none)) else (some false)
def laws_contains.f (k : Nat) (l0 : List Int) (a1 : Int) : Option (Bool) := laws_contains.l0 k l0 a1 0
theorem laws_contains.mono_l : ∀ k, (∀ y0 y1 y2, LeO (laws_contains.l0 k y0 y1 y2) (laws_contains.l0 (k + 1) y0 y1 y2))
 | 0 => fun _ _ _ r h => by simp [laws_contains.l0] at h
 | k + 1 => by
  have ih0 := laws_contains.mono_l k
  ·intro y0 y1 y2
   unfold laws_contains.l0
   repeat' first
   | (with_reducible exact ih0 _ _ _)
   | (with_reducible exact LeO.refl _)
   | (with_reducible exact LeO.none _)
   | (with_reducible refine LeO.ite ?_ ?_)
   | (with_reducible refine LeO.bind ?_ (fun _ => ?_))
   | exact ih0 _ _ _
   | exact LeO.none _
   | refine LeO.ite ?_ ?_
   | refine LeO.bind ?_ (fun _ => ?_)
theorem laws_contains.mono : ∀ a0 a1 k, LeO (laws_contains.f k a0 a1) (laws_contains.f (k + 1) a0 a1) := by
 intro a0 a1 k
 have ih0 := laws_contains.mono_l k
 unfold laws_contains.f
 repeat' first
   | (with_reducible exact ih0 _ _ _)
   | (with_reducible exact LeO.refl _)
   | (with_reducible exact LeO.none _)
   | (with_reducible refine LeO.ite ?_ ?_)
   | (with_reducible refine LeO.bind ?_ (fun _ => ?_))
   | exact ih0 _ _ _
   | exact LeO.none _
   | refine LeO.ite ?_ ?_
   | refine LeO.bind ?_ (fun _ => ?_)
set_option maxHeartbeats 8000000 in
set_option maxRecDepth 100000 in
theorem laws_contains.calls (k : Nat) (A0 : Option Addr) (c0 : Nat) (l0 : List Int) (a1 : Int) (r : Bool) (w : World) (hr0 : Kd.C (Kd.int .i64) w A0 l0.length l0) (hc0 : l0.length ≤ c0) (h : laws_contains.f k l0 a1 = some r) :
  Calls Try.prog 18 #[.slice A0 l0.length c0, .int .i64 a1] w fun e w' => e = .returned (.bool r) ∧ Drawn0 w w' := by
 have HR0 := Aside0.mk hr0
 have HC0 := Aside0.mk hc0
 clear hr0 hc0
 have H : (laws_contains.l0 k l0 a1 0) = some r := h
 clear h
 have H' := Aside0.mk H
 clear H
 go_enter Try.func18, Try.ntmps18
 go_wp2
 go_loopg [5] k (fun kq v5 w' => ∃ (x5_1 : Int), v5 = .int .i64 x5_1 ∧ Aside0 (laws_contains.l0 kq l0 a1 x5_1 = some r) ∧ Aside0 (kq ≤ k) ∧ Drawn0 w w')
 case atStart => exact ⟨(0), (by first | rfl | (simp; done) | (simp [*]; done)), H', ⟨Nat.le_refl _⟩, by repeat (first | exact Drawn0.refl _ | apply Drawn0.step)⟩
 case round =>
  clear H'
  try clear c1
  try clear p2
  obtain ⟨x5_1, rfl, HA, HK1, ⟨m1, rfl⟩⟩ := hrel
  cases gk with
  | zero => exact absurd HA.out (by simp [laws_contains.l0])
  | succ k1 =>
   have H := HA.out
   clear HA
   simp only [laws_contains.l0] at H
   by_cases c3 : x5_1 < (l0.length : Int)
   ·rw [if_pos c3] at H
    have c3b0 : decide (x5_1 < (l0.length : Int)) = true := decide_eq_true c3
    clear c3
    by_cases c4 : 0 ≤ x5_1
    ·rw [if_pos c4] at H
     have c4b0 : decide (0 ≤ x5_1) = true := decide_eq_true c4
     clear c4
     by_cases c5 : (rd l0 x5_1) = a1
     ·rw [if_pos c5] at H
      have c5b0 : ((rd l0 x5_1) == a1) = true := beq_iff_eq.mpr c5
      have c5b1 : ((rd l0 x5_1) != a1) = false := bne_eq_false_iff_eq.mpr c5
      clear c5
      obtain rfl := Option.some.inj H
      have p344 : 0 ≤ (x5_1 : Int) := of_decide_eq_true (by first | (with_reducible assumption) | assumption)
      have q344 : x5_1 < (l0.length : Int) := of_decide_eq_true (by first | (with_reducible assumption) | assumption)
      obtain ⟨ad344, e344, hx344_0⟩ := Kd.at_int HR0.out x5_1 p344 q344
      cases e344
      replace p344 := eq_true p344
      replace q344 := eq_true q344
      go_wp2
      go_ret
      exact ⟨by first | rfl | (simp; done) | (simp [*]; done), by repeat (first | exact Drawn0.refl _ | apply Drawn0.step)⟩
     ·rw [if_neg c5] at H
      have c5b0 : ((rd l0 x5_1) == a1) = false := beq_eq_false_iff_ne.mpr c5
      have c5b1 : ((rd l0 x5_1) != a1) = true := bne_iff_ne.mpr c5
      have H' := Aside0.mk H
      clear H
      have p344 : 0 ≤ (x5_1 : Int) := of_decide_eq_true (by first | (with_reducible assumption) | assumption)
      have q344 : x5_1 < (l0.length : Int) := of_decide_eq_true (by first | (with_reducible assumption) | assumption)
      obtain ⟨ad344, e344, hx344_0⟩ := Kd.at_int HR0.out x5_1 p344 q344
      cases e344
      replace p344 := eq_true p344
      replace q344 := eq_true q344
      go_wp2
      go_roundg k1
      case measure => have := HK1.out; omega
      case rel => exact ⟨(wrap64 (x5_1 + 1)), (by first | rfl | (simp; done) | (simp [*]; done)), H', ⟨by have := HK1.out; omega⟩, by repeat (first | exact Drawn0.refl _ | apply Drawn0.step)⟩
    ·rw [if_neg c4] at H
     exact absurd H (by simp)
   ·rw [if_neg c3] at H
    have c3b0 : decide (x5_1 < (l0.length : Int)) = false := decide_eq_false c3
    clear c3
    obtain rfl := Option.some.inj H
    go_wp2
    go_ret
    exact ⟨by first | rfl | (simp; done) | (simp [*]; done), by repeat (first | exact Drawn0.refl _ | apply Drawn0.step)⟩

/-! ### impl_FoundAt: function 19 -/
def impl_FoundAt.l0 : Nat → Int → List Int → List (S31) → Int → Int → Option (List Int)
 | 0, _, _, _, _, _ => none
 | k + 1, x1, x5, x9, x10, x11 => if x11 < x10 then (if 0 ≤ x11 then (if x11 < (x9.length : Int) then (if ((rd_T31 x9 x11).f1) = x1 then (if x5.length < 17592186044416 then (impl_FoundAt.l0 k x1 (x5 ++ [(rd_T31 x9 x11).f0.f0]) x9 x10 (wrap64 (x11 + 1))) else (none)) else (impl_FoundAt.l0 k x1 x5 x9 x10 (wrap64 (x11 + 1)))) else (none)) else (none)) else (some x5)
def impl_FoundAt.f (k : Nat) (l0 : List (S31)) (a1 : Int) : Option (List Int) := impl_FoundAt.l0 k a1 (([] : List Int)) l0 (l0.length : Int) 0
theorem impl_FoundAt.mono_l : ∀ k, (∀ y0 y1 y2 y3 y4, LeO (impl_FoundAt.l0 k y0 y1 y2 y3 y4) (impl_FoundAt.l0 (k + 1) y0 y1 y2 y3 y4))
 | 0 => fun _ _ _ _ _ r h => by simp [impl_FoundAt.l0] at h
 | k + 1 => by
  have ih0 := impl_FoundAt.mono_l k
  ·intro y0 y1 y2 y3 y4
   unfold impl_FoundAt.l0
   repeat' first
   | (with_reducible exact ih0 _ _ _ _ _)
   | (with_reducible exact LeO.refl _)
   | (with_reducible exact LeO.none _)
   | (with_reducible refine LeO.ite ?_ ?_)
   | (with_reducible refine LeO.bind ?_ (fun _ => ?_))
   | exact ih0 _ _ _ _ _
   | exact LeO.none _
   | refine LeO.ite ?_ ?_
   | refine LeO.bind ?_ (fun _ => ?_)
theorem impl_FoundAt.mono : ∀ a0 a1 k, LeO (impl_FoundAt.f k a0 a1) (impl_FoundAt.f (k + 1) a0 a1) := by
 intro a0 a1 k
 have ih0 := impl_FoundAt.mono_l k
 unfold impl_FoundAt.f
 repeat' first
   | (with_reducible exact ih0 _ _ _ _ _)
   | (with_reducible exact LeO.refl _)
   | (with_reducible exact LeO.none _)
   | (with_reducible refine LeO.ite ?_ ?_)
   | (with_reducible refine LeO.bind ?_ (fun _ => ?_))
   | exact ih0 _ _ _ _ _
   | exact LeO.none _
   | refine LeO.ite ?_ ?_
   | refine LeO.bind ?_ (fun _ => ?_)
set_option maxHeartbeats 8000000 in
set_option maxRecDepth 100000 in
theorem impl_FoundAt.calls (k : Nat) (A0 : Option Addr) (c0 : Nat) (l0 : List (S31)) (a1 : Int) (r : List Int) (w : World) (hr0 : Kd.C k31 w A0 l0.length l0) (hc0 : l0.length ≤ c0) (h : impl_FoundAt.f k l0 a1 = some r) :
  Calls Try.prog 19 #[.slice A0 l0.length c0, .int .i64 a1] w fun e w' => ∃ v0_ : Value, e = .returned (v0_) ∧ Kd.R (Kd.int .i64) 3 w' w.heap.size (fun _ => True) v0_ r ∧ Below w.heap.size w w' := by
 have hu31 := Try.underlying31
 have HR0 := Aside0.mk hr0
 have HC0 := Aside0.mk hc0
 clear hr0 hc0
 have HB := Aside0.mk (Below.refl w.heap.size w)
 have H : (impl_FoundAt.l0 k a1 (([] : List Int)) l0 (l0.length : Int) 0) = some r := h
 clear h
 obtain ⟨y345, hy345⟩ : ∃ y_ : List Int, y_ = (([] : List Int)) := ⟨_, rfl⟩
 replace H : (impl_FoundAt.l0 k a1 y345 l0 (l0.length : Int) 0) = some r := by first | (rw [hy345]; with_reducible exact H) | (have H2_ := (Option.bind_some _ _).symm.trans H; rw [hy345]; with_reducible exact H2_) | (have H2_ := (Option.bind_some _ _).symm.trans H; with_reducible exact H2_) | with_reducible exact H | (rw [hy345]; exact H) | exact H
 have Ny345 := Aside0.mk hy345
 clear hy345
 have H' := Aside0.mk H
 clear H
 go_enter Try.func19, Try.ntmps19
 go_wp2_with (first | ((with_reducible refine gate_dst (N := 8) rfl ?_); refine Kd.R_lit (Kd.int .i64) _ 3 ?hg (N := 8) ?hd (xs := ([] : List Int)) (inner := []) (ok := fun _ => True) (okp := fun _ => True) ?hr ?hp (fun _ hk => hk) trivial (Below.refl _ _) (Nat.le_refl _) (by simp) ?_; (case hd => rfl); (case hg => rfl); (case hr => first | (go_simp; done) | (go_simp; rfl)); (case hp => exact (Reps.none _ _)); intro v346 w3 ho4 hb hg_ hnew_; clear hg_ hnew_; (first | rw [← Ny345.out] at ho4 | (simp only [Int.reduceToNat] at ho4; rw [← Ny345.out] at ho4)); have HO347 := Aside0.mk (Kd.R_lower ho4 (below_size (by repeat (first | (with_reducible first | exact HB.out | apply bA | apply bN | apply bD) | exact HB.out)))); replace HB := Aside0.mk (below_step (by repeat (first | (with_reducible first | exact HB.out | apply bA | apply bN | apply bD) | exact HB.out)) hb); clear hb ho4))
 go_loopg [5, 11] k (fun kq v5 v11 w' => ∃ (x5_1 : List Int) (x11_1 : Int), v11 = .int .i64 x11_1 ∧ Aside0 (impl_FoundAt.l0 kq a1 x5_1 l0 (l0.length : Int) x11_1 = some r) ∧ Aside0 (kq ≤ k) ∧ Aside0 (Kd.R (Kd.int .i64) 3 w' w.heap.size (fun _ => True) v5 x5_1) ∧ Aside0 (Below w.heap.size w w'))
 case atStart => exact ⟨(y345), (0), (by first | rfl | (simp; done) | (simp [*]; done)), H', ⟨Nat.le_refl _⟩, ⟨by (with_reducible repeat (first | apply rA | apply rN | apply rD)); exact HO347.out⟩, ⟨by repeat (first | (with_reducible first | exact HB.out | apply bA | apply bN | apply bD) | exact HB.out)⟩⟩
 case round =>
  clear H'
  try clear c1
  try clear p2
  obtain ⟨x5_1, x11_1, rfl, HA, HK1, HO_5, HB⟩ := hrel
  cases gk with
  | zero => exact absurd HA.out (by simp [impl_FoundAt.l0])
  | succ k1 =>
   have H := HA.out
   clear HA
   simp only [impl_FoundAt.l0] at H
   by_cases c5 : x11_1 < (l0.length : Int)
   ·rw [if_pos c5] at H
    have c5b0 : decide (x11_1 < (l0.length : Int)) = true := decide_eq_true c5
    clear c5
    by_cases c6 : 0 ≤ x11_1
    ·rw [if_pos c6] at H
     have c6b0 : decide (0 ≤ x11_1) = true := decide_eq_true c6
     clear c6
     by_cases c7 : x11_1 < (l0.length : Int)
     ·rw [if_pos c7] at H
      have c7b0 : decide (x11_1 < (l0.length : Int)) = true := decide_eq_true c7
      clear c7
      by_cases c8 : ((rd_T31 l0 x11_1).f1) = a1
      ·rw [if_pos c8] at H
       have c8b0 : (((rd_T31 l0 x11_1).f1) == a1) = true := beq_iff_eq.mpr c8
       have c8b1 : (((rd_T31 l0 x11_1).f1) != a1) = false := bne_eq_false_iff_eq.mpr c8
       clear c8
       by_cases c9 : x5_1.length < 17592186044416
       ·rw [if_pos c9] at H
        have LMc9 := Aside0.mk c9
        clear c9
        obtain ⟨y350, hy350⟩ : ∃ y_ : List Int, y_ = (x5_1 ++ [(rd_T31 l0 x11_1).f0.f0]) := ⟨_, rfl⟩
        replace H : (impl_FoundAt.l0 k1 a1 y350 l0 (l0.length : Int) (wrap64 (x11_1 + 1))) = some r := by first | (rw [hy350]; with_reducible exact H) | (have H2_ := (Option.bind_some _ _).symm.trans H; rw [hy350]; with_reducible exact H2_) | (have H2_ := (Option.bind_some _ _).symm.trans H; with_reducible exact H2_) | with_reducible exact H | (rw [hy350]; exact H) | exact H
        have Ny350 := Aside0.mk hy350
        clear hy350
        have H' := Aside0.mk H
        clear H
        have p348 : 0 ≤ (x11_1 : Int) := of_decide_eq_true (by first | (with_reducible assumption) | assumption)
        have q348 : x11_1 < (l0.length : Int) := of_decide_eq_true (by first | (with_reducible assumption) | assumption)
        obtain ⟨ad348, e348, hx348_0, hx348_1, hx348_2, hx348_3, hx348_4, hx348_5, hx348_6, hx348_7⟩ := at_T31 HR0.out x11_1 p348 q348
        cases e348
        replace hx348_0 := (HB.out.cell (World.block_lt_of_cell? w _ hx348_0)).trans hx348_0
        replace hx348_1 := (HB.out.cell (World.block_lt_of_cell? w _ hx348_1)).trans hx348_1
        replace hx348_2 := (HB.out.cell (World.block_lt_of_cell? w _ hx348_2)).trans hx348_2
        replace hx348_3 := (HB.out.cell (World.block_lt_of_cell? w _ hx348_3)).trans hx348_3
        replace hx348_4 := (HB.out.cell (World.block_lt_of_cell? w _ hx348_4)).trans hx348_4
        replace hx348_5 := (HB.out.cell (World.block_lt_of_cell? w _ hx348_5)).trans hx348_5
        replace hx348_6 := (HB.out.cell (World.block_lt_of_cell? w _ hx348_6)).trans hx348_6
        replace hx348_7 := (HB.out.cell (World.block_lt_of_cell? w _ hx348_7)).trans hx348_7
        replace p348 := eq_true p348
        replace q348 := eq_true q348
        go_wp2_with (first | ((with_reducible refine gate_dst (N := 7) rfl ?_); refine box_event ?hg (N := 7) ?hd (cs := #[.int .i64 0, .int .i64 0, .int .i64 0, .int .i64 0, .int .i64 0, .int .i64 0, .int .i64 0, .int .i64 0]) (t := 31) ?hr ?_; (case hd => rfl); (case hg => rfl); (case hr => first | (go_simp; done) | (go_simp; rfl)); intro gb349 hg w10 hbox hb; replace HO_5 := Aside0.mk (Kd.R_below (by (with_reducible repeat (first | apply rA | apply rN | apply rD)); exact HO_5.out) hb); have BK349 := Aside0.mk (hbox); have GW349 := Aside0.mk ((by rw [hg]; exact (below_size (by repeat (first | (with_reducible first | exact HB.out | apply bA | apply bN | apply bD) | exact HB.out))) : w.heap.size ≤ gb349)); have GE349 := Aside0.mk ((by rw [hg]; exact (below_size (by repeat (first | (with_reducible first | exact HB.out | apply bA | apply bN | apply bD) | exact HB.out))) : w.heap.size ≤ gb349)); replace HB := Aside0.mk (below_step (by repeat (first | (with_reducible first | exact HB.out | apply bA | apply bN | apply bD) | exact HB.out)) hb); clear hb hbox hg; have hcz11_0 : w10.cell? ⟨gb349, 0, none⟩ = some (.int .i64 0) := (blk_cell BK349.out 0).trans rfl; have hcz11_1 : w10.cell? ⟨gb349, 1, none⟩ = some (.int .i64 0) := (blk_cell BK349.out 1).trans rfl; have hcz11_2 : w10.cell? ⟨gb349, 2, none⟩ = some (.int .i64 0) := (blk_cell BK349.out 2).trans rfl; have hcz11_3 : w10.cell? ⟨gb349, 3, none⟩ = some (.int .i64 0) := (blk_cell BK349.out 3).trans rfl; have hcz11_4 : w10.cell? ⟨gb349, 4, none⟩ = some (.int .i64 0) := (blk_cell BK349.out 4).trans rfl; have hcz11_5 : w10.cell? ⟨gb349, 5, none⟩ = some (.int .i64 0) := (blk_cell BK349.out 5).trans rfl; have hcz11_6 : w10.cell? ⟨gb349, 6, none⟩ = some (.int .i64 0) := (blk_cell BK349.out 6).trans rfl; have hcz11_7 : w10.cell? ⟨gb349, 7, none⟩ = some (.int .i64 0) := (blk_cell BK349.out 7).trans rfl; have hfz11_0 := blk_frozen BK349.out 0; have hfz11_1 := blk_frozen BK349.out 1; have hfz11_2 := blk_frozen BK349.out 2; have hfz11_3 := blk_frozen BK349.out 3; have hfz11_4 := blk_frozen BK349.out 4; have hfz11_5 := blk_frozen BK349.out 5; have hfz11_6 := blk_frozen BK349.out 6; have hfz11_7 := blk_frozen BK349.out 7) | ((with_reducible refine gate_builtin (b := .append) (xs := #[.tmp 19, .tmp 23]) rfl ?_); at_builtin; refine Kd.R_append (Kd.int .i64) (w0 := w) w.heap.size rfl (.tmp 19) (.tmp 23) 22 3 (.int .i64 0) 8 rfl Try.underlying22 info3 rfl (by decide) (by omega) u5 x5_1 ((rd_T31 l0 x11_1).f0.f0) [.int .i64 ((rd_T31 l0 x11_1).f0.f0)] (fun _ => True) (fun _ => False) rfl (by first | (go_simp; done) | (go_simp; rfl)) ?aP (fun _ hk => hk.elim) ?aF ?aO ?aB ?aS ?aL ?_; (case aP => exact rfl); (case aB => exact (by repeat (first | (with_reducible first | exact HB.out | apply bA | apply bN | apply bD | refine bS ?_ GE349.out) | exact HB.out))); (case aF => exact (fun _ _ => trivial)); (case aO => exact (by (with_reducible repeat (first | apply rA | apply rN | apply rD)); exact Kd.R_mono (Kd.R_far (p := ⟨gb349, 7, none⟩) (Kd.R_far (p := ⟨gb349, 6, none⟩) (Kd.R_far (p := ⟨gb349, 5, none⟩) (Kd.R_far (p := ⟨gb349, 4, none⟩) (Kd.R_far (p := ⟨gb349, 3, none⟩) (Kd.R_far (p := ⟨gb349, 2, none⟩) (Kd.R_far (p := ⟨gb349, 1, none⟩) (Kd.R_far (p := ⟨gb349, 0, none⟩) (Kd.R_types HO_5.out BK349.out (by decide)) (fun _ hk => hk.2) (.int .i64 ((rd_T31 l0 x11_1).f0.f0))) (fun _ hk => hk.2) (.int .i64 ((rd_T31 l0 x11_1).f0.f1))) (fun _ hk => hk.2) (.int .i64 ((rd_T31 l0 x11_1).f0.f2))) (fun _ hk => hk.2) (.int .i64 ((rd_T31 l0 x11_1).f0.f3))) (fun _ hk => hk.2) (.int .i64 ((rd_T31 l0 x11_1).f0.f4))) (fun _ hk => hk.2) (.int .i64 ((rd_T31 l0 x11_1).f1))) (fun _ hk => hk.2) (.int .i64 ((rd_T31 l0 x11_1).f2))) (fun _ hk => hk.2) (.int .i64 ((rd_T31 l0 x11_1).f3))) (fun _ hk => trivial))); (case aS => exact (below_size (by repeat (first | (with_reducible first | exact HB.out | apply bA | apply bN | apply bD | refine bS ?_ GE349.out) | exact HB.out)))); (case aL => have := LMc9.out; omega); intro v351 w12 ho hb hg hat; rw [← Ny350.out] at ho; replace BK349 := Aside0.mk (blk_grown (g := gb349) (o := .cells #[.int .i64 ((rd_T31 l0 x11_1).f0.f0), .int .i64 ((rd_T31 l0 x11_1).f0.f1), .int .i64 ((rd_T31 l0 x11_1).f0.f2), .int .i64 ((rd_T31 l0 x11_1).f0.f3), .int .i64 ((rd_T31 l0 x11_1).f0.f4), .int .i64 ((rd_T31 l0 x11_1).f1), .int .i64 ((rd_T31 l0 x11_1).f2), .int .i64 ((rd_T31 l0 x11_1).f3)] 31 (0, 0)) (by (with_reducible repeat (first | refine dN ?_ _ | refine dW ?_ | refine dA ?_ _)); refine blk_put (cs := #[.int .i64 ((rd_T31 l0 x11_1).f0.f0), .int .i64 ((rd_T31 l0 x11_1).f0.f1), .int .i64 ((rd_T31 l0 x11_1).f0.f2), .int .i64 ((rd_T31 l0 x11_1).f0.f3), .int .i64 ((rd_T31 l0 x11_1).f0.f4), .int .i64 ((rd_T31 l0 x11_1).f1), .int .i64 ((rd_T31 l0 x11_1).f2), .int .i64 0]) ?_ 7 _ rfl; (with_reducible repeat (first | refine dN ?_ _ | refine dW ?_ | refine dA ?_ _)); refine blk_put (cs := #[.int .i64 ((rd_T31 l0 x11_1).f0.f0), .int .i64 ((rd_T31 l0 x11_1).f0.f1), .int .i64 ((rd_T31 l0 x11_1).f0.f2), .int .i64 ((rd_T31 l0 x11_1).f0.f3), .int .i64 ((rd_T31 l0 x11_1).f0.f4), .int .i64 ((rd_T31 l0 x11_1).f1), .int .i64 0, .int .i64 0]) ?_ 6 _ rfl; (with_reducible repeat (first | refine dN ?_ _ | refine dW ?_ | refine dA ?_ _)); refine blk_put (cs := #[.int .i64 ((rd_T31 l0 x11_1).f0.f0), .int .i64 ((rd_T31 l0 x11_1).f0.f1), .int .i64 ((rd_T31 l0 x11_1).f0.f2), .int .i64 ((rd_T31 l0 x11_1).f0.f3), .int .i64 ((rd_T31 l0 x11_1).f0.f4), .int .i64 0, .int .i64 0, .int .i64 0]) ?_ 5 _ rfl; (with_reducible repeat (first | refine dN ?_ _ | refine dW ?_ | refine dA ?_ _)); refine blk_put (cs := #[.int .i64 ((rd_T31 l0 x11_1).f0.f0), .int .i64 ((rd_T31 l0 x11_1).f0.f1), .int .i64 ((rd_T31 l0 x11_1).f0.f2), .int .i64 ((rd_T31 l0 x11_1).f0.f3), .int .i64 0, .int .i64 0, .int .i64 0, .int .i64 0]) ?_ 4 _ rfl; (with_reducible repeat (first | refine dN ?_ _ | refine dW ?_ | refine dA ?_ _)); refine blk_put (cs := #[.int .i64 ((rd_T31 l0 x11_1).f0.f0), .int .i64 ((rd_T31 l0 x11_1).f0.f1), .int .i64 ((rd_T31 l0 x11_1).f0.f2), .int .i64 0, .int .i64 0, .int .i64 0, .int .i64 0, .int .i64 0]) ?_ 3 _ rfl; (with_reducible repeat (first | refine dN ?_ _ | refine dW ?_ | refine dA ?_ _)); refine blk_put (cs := #[.int .i64 ((rd_T31 l0 x11_1).f0.f0), .int .i64 ((rd_T31 l0 x11_1).f0.f1), .int .i64 0, .int .i64 0, .int .i64 0, .int .i64 0, .int .i64 0, .int .i64 0]) ?_ 2 _ rfl; (with_reducible repeat (first | refine dN ?_ _ | refine dW ?_ | refine dA ?_ _)); refine blk_put (cs := #[.int .i64 ((rd_T31 l0 x11_1).f0.f0), .int .i64 0, .int .i64 0, .int .i64 0, .int .i64 0, .int .i64 0, .int .i64 0, .int .i64 0]) ?_ 1 _ rfl; (with_reducible repeat (first | refine dN ?_ _ | refine dW ?_ | refine dA ?_ _)); refine blk_put (cs := #[.int .i64 0, .int .i64 0, .int .i64 0, .int .i64 0, .int .i64 0, .int .i64 0, .int .i64 0, .int .i64 0]) ?_ 0 _ rfl; (with_reducible repeat (first | refine dN ?_ _ | refine dW ?_ | refine dA ?_ _)); exact BK349.out) hg (Kd.R_ne HO_5.out BK349.out (by decide))); replace HB := Aside0.mk (hb); have HO352 := Aside0.mk (ho); clear HO_5; clear ho hb hg hat))
        go_roundg k1
        case measure => have := HK1.out; omega
        case rel => exact ⟨(y350), (wrap64 (x11_1 + 1)), (by first | rfl | (simp; done) | (simp [*]; done)), H', ⟨by have := HK1.out; omega⟩, ⟨by (with_reducible repeat (first | apply rA | apply rN | apply rD)); exact HO352.out⟩, ⟨by repeat (first | (with_reducible first | exact HB.out | apply bA | apply bN | apply bD | refine bS ?_ GE349.out) | exact HB.out)⟩⟩
       ·rw [if_neg c9] at H
        exact absurd H (by simp)
      ·rw [if_neg c8] at H
       have c8b0 : (((rd_T31 l0 x11_1).f1) == a1) = false := beq_eq_false_iff_ne.mpr c8
       have c8b1 : (((rd_T31 l0 x11_1).f1) != a1) = true := bne_iff_ne.mpr c8
       have H' := Aside0.mk H
       clear H
       have p348 : 0 ≤ (x11_1 : Int) := of_decide_eq_true (by first | (with_reducible assumption) | assumption)
       have q348 : x11_1 < (l0.length : Int) := of_decide_eq_true (by first | (with_reducible assumption) | assumption)
       obtain ⟨ad348, e348, hx348_0, hx348_1, hx348_2, hx348_3, hx348_4, hx348_5, hx348_6, hx348_7⟩ := at_T31 HR0.out x11_1 p348 q348
       cases e348
       replace hx348_0 := (HB.out.cell (World.block_lt_of_cell? w _ hx348_0)).trans hx348_0
       replace hx348_1 := (HB.out.cell (World.block_lt_of_cell? w _ hx348_1)).trans hx348_1
       replace hx348_2 := (HB.out.cell (World.block_lt_of_cell? w _ hx348_2)).trans hx348_2
       replace hx348_3 := (HB.out.cell (World.block_lt_of_cell? w _ hx348_3)).trans hx348_3
       replace hx348_4 := (HB.out.cell (World.block_lt_of_cell? w _ hx348_4)).trans hx348_4
       replace hx348_5 := (HB.out.cell (World.block_lt_of_cell? w _ hx348_5)).trans hx348_5
       replace hx348_6 := (HB.out.cell (World.block_lt_of_cell? w _ hx348_6)).trans hx348_6
       replace hx348_7 := (HB.out.cell (World.block_lt_of_cell? w _ hx348_7)).trans hx348_7
       replace p348 := eq_true p348
       replace q348 := eq_true q348
       go_wp2_with (first | ((with_reducible refine gate_dst (N := 7) rfl ?_); refine box_event ?hg (N := 7) ?hd (cs := #[.int .i64 0, .int .i64 0, .int .i64 0, .int .i64 0, .int .i64 0, .int .i64 0, .int .i64 0, .int .i64 0]) (t := 31) ?hr ?_; (case hd => rfl); (case hg => rfl); (case hr => first | (go_simp; done) | (go_simp; rfl)); intro gb349 hg w13 hbox hb; replace HO_5 := Aside0.mk (Kd.R_below (by (with_reducible repeat (first | apply rA | apply rN | apply rD)); exact HO_5.out) hb); have BK349 := Aside0.mk (hbox); have GW349 := Aside0.mk ((by rw [hg]; exact (below_size (by repeat (first | (with_reducible first | exact HB.out | apply bA | apply bN | apply bD) | exact HB.out))) : w.heap.size ≤ gb349)); have GE349 := Aside0.mk ((by rw [hg]; exact (below_size (by repeat (first | (with_reducible first | exact HB.out | apply bA | apply bN | apply bD) | exact HB.out))) : w.heap.size ≤ gb349)); replace HB := Aside0.mk (below_step (by repeat (first | (with_reducible first | exact HB.out | apply bA | apply bN | apply bD) | exact HB.out)) hb); clear hb hbox hg; have hcz14_0 : w13.cell? ⟨gb349, 0, none⟩ = some (.int .i64 0) := (blk_cell BK349.out 0).trans rfl; have hcz14_1 : w13.cell? ⟨gb349, 1, none⟩ = some (.int .i64 0) := (blk_cell BK349.out 1).trans rfl; have hcz14_2 : w13.cell? ⟨gb349, 2, none⟩ = some (.int .i64 0) := (blk_cell BK349.out 2).trans rfl; have hcz14_3 : w13.cell? ⟨gb349, 3, none⟩ = some (.int .i64 0) := (blk_cell BK349.out 3).trans rfl; have hcz14_4 : w13.cell? ⟨gb349, 4, none⟩ = some (.int .i64 0) := (blk_cell BK349.out 4).trans rfl; have hcz14_5 : w13.cell? ⟨gb349, 5, none⟩ = some (.int .i64 0) := (blk_cell BK349.out 5).trans rfl; have hcz14_6 : w13.cell? ⟨gb349, 6, none⟩ = some (.int .i64 0) := (blk_cell BK349.out 6).trans rfl; have hcz14_7 : w13.cell? ⟨gb349, 7, none⟩ = some (.int .i64 0) := (blk_cell BK349.out 7).trans rfl; have hfz14_0 := blk_frozen BK349.out 0; have hfz14_1 := blk_frozen BK349.out 1; have hfz14_2 := blk_frozen BK349.out 2; have hfz14_3 := blk_frozen BK349.out 3; have hfz14_4 := blk_frozen BK349.out 4; have hfz14_5 := blk_frozen BK349.out 5; have hfz14_6 := blk_frozen BK349.out 6; have hfz14_7 := blk_frozen BK349.out 7))
       go_roundg k1
       case measure => have := HK1.out; omega
       case rel => exact ⟨(x5_1), (wrap64 (x11_1 + 1)), (by first | rfl | (simp; done) | (simp [*]; done)), H', ⟨by have := HK1.out; omega⟩, ⟨by (with_reducible repeat (first | apply rA | apply rN | apply rD)); exact Kd.R_mono (Kd.R_far (p := ⟨gb349, 7, none⟩) (Kd.R_far (p := ⟨gb349, 6, none⟩) (Kd.R_far (p := ⟨gb349, 5, none⟩) (Kd.R_far (p := ⟨gb349, 4, none⟩) (Kd.R_far (p := ⟨gb349, 3, none⟩) (Kd.R_far (p := ⟨gb349, 2, none⟩) (Kd.R_far (p := ⟨gb349, 1, none⟩) (Kd.R_far (p := ⟨gb349, 0, none⟩) (Kd.R_types HO_5.out BK349.out (by decide)) (fun _ hk => hk.2) (.int .i64 ((rd_T31 l0 x11_1).f0.f0))) (fun _ hk => hk.2) (.int .i64 ((rd_T31 l0 x11_1).f0.f1))) (fun _ hk => hk.2) (.int .i64 ((rd_T31 l0 x11_1).f0.f2))) (fun _ hk => hk.2) (.int .i64 ((rd_T31 l0 x11_1).f0.f3))) (fun _ hk => hk.2) (.int .i64 ((rd_T31 l0 x11_1).f0.f4))) (fun _ hk => hk.2) (.int .i64 ((rd_T31 l0 x11_1).f1))) (fun _ hk => hk.2) (.int .i64 ((rd_T31 l0 x11_1).f2))) (fun _ hk => hk.2) (.int .i64 ((rd_T31 l0 x11_1).f3))) (fun _ hk => trivial)⟩, ⟨by repeat (first | (with_reducible first | exact HB.out | apply bA | apply bN | apply bD | refine bS ?_ GE349.out) | exact HB.out)⟩⟩
     ·rw [if_neg c7] at H
      exact absurd H (by simp)
    ·rw [if_neg c6] at H
     exact absurd H (by simp)
   ·rw [if_neg c5] at H
    have c5b0 : decide (x11_1 < (l0.length : Int)) = false := decide_eq_false c5
    clear c5
    obtain rfl := Option.some.inj H
    go_wp2
    go_ret
    exact ⟨_, by first | rfl | (simp [errW_none, errW_some] <;> rfl) | (simp [*, errW_none, errW_some] <;> rfl), by (with_reducible repeat (first | apply rA | apply rN | apply rD)); exact HO_5.out, by repeat (first | (with_reducible first | exact HB.out | apply bA | apply bN | apply bD) | exact HB.out)⟩

/-! ### spec_l5Draw: function 62 -/
def spec_l5Draw.f (s0_0 : List Int) (s0_1 : Int) (s0_2 : Int) : Option (Int × Int × Int × Int) := (spec_l1Below.f s0_0 s0_1 s0_2 60).bind fun bt354 => ((spec_l1Below.f s0_0 bt354.2.1 bt354.2.2 30).bind fun bt357 => (some (bt354.1, wrap64 (bt354.1 + bt357.1), bt357.2.1, bt357.2.2)))
set_option maxHeartbeats 8000000 in
set_option maxRecDepth 100000 in
theorem spec_l5Draw.calls (g : Nat) (s0_0 : List Int) (s0_1 : Int) (s0_2 : Int) (r1 : Int) (r2 : Int) (r3 : Int) (r4 : Int) (w0 w : World) (hI : IsS76 w0 w g s0_0 s0_1 s0_2) (hB : Below w0.heap.size w0 w) (h : spec_l5Draw.f s0_0 s0_1 s0_2 = some (r1, r2, r3, r4)) :
  Calls Try.prog 62 #[.pointer (some ⟨g, 0, none⟩)] w fun e w' => e = .returned (.agg #[.int .i64 r1, .int .i64 r2]) ∧ IsS76 w0 w' g s0_0 r3 r4 ∧ Below w0.heap.size w0 w' ∧ KeepBut w w' g none := by
 have hu41 := Try.underlying41
 have HI0 := Aside0.mk hI
 have HK := Aside0.mk (KeepBut.refl w g none)
 have HL := Aside0.mk hB.size
 clear hI
 have HW0 := Aside0.mk hB.size
 have HB := Aside0.mk hB
 clear hB
 have H : ((spec_l1Below.f s0_0 s0_1 s0_2 60).bind fun bt354 => ((spec_l1Below.f s0_0 bt354.2.1 bt354.2.2 30).bind fun bt357 => (some (bt354.1, wrap64 (bt354.1 + bt357.1), bt357.2.1, bt357.2.2)))) = some (r1, r2, r3, r4) := h
 clear h
 replace H := obm H
 obtain ⟨⟨t354, t355, t356⟩, A20, H⟩ := H
 replace H : ((spec_l1Below.f s0_0 t355 t356 30).bind fun bt357 => (some (t354, wrap64 (t354 + bt357.1), bt357.2.1, bt357.2.2))) = some (r1, r2, r3, r4) := H
 have A2 := Aside0.mk A20
 clear A20
 replace H := obm H
 obtain ⟨⟨t357, t358, t359⟩, A30, H⟩ := H
 replace H : (some (t354, wrap64 (t354 + t357), t358, t359)) = some (r1, r2, r3, r4) := H
 have A3 := Aside0.mk A30
 clear A30
 simp only [Option.some.injEq, Prod.mk.injEq] at H
 obtain ⟨rfl, rfl, rfl, rfl⟩ := H
 go_enter Try.func62, Try.ntmps62
 go_wp2_with (first | ((with_reducible refine gate_dst (N := 2) rfl ?_); refine box_event ?hg (N := 2) ?hd (cs := #[.int .i64 0, .int .i64 0]) (t := 41) ?hr ?_; (case hd => rfl); (case hg => rfl); (case hr => first | (go_simp; done) | (go_simp; rfl)); intro gb353 hg w4 hbox hb; replace HB := Aside0.mk (below_step (by repeat (first | (with_reducible first | exact HB.out | apply bA | apply bN | apply bD | refine bS ?_ (IsS76.ge HI0.out)) | exact HB.out)) hb); have BK353 := Aside0.mk (hbox); have GW353 := Aside0.mk ((by rw [hg]; exact (keep_size (w := w) (g := g) (row := none) (by repeat (first | (with_reducible first | exact HK.out | apply kS | apply kN | apply kD | apply kA) | exact HK.out))) : w.heap.size ≤ gb353)); have GE353 := Aside0.mk ((Nat.le_trans HW0.out (by rw [hg]; exact (keep_size (w := w) (g := g) (row := none) (by repeat (first | (with_reducible first | exact HK.out | apply kS | apply kN | apply kD | apply kA) | exact HK.out))) : w.heap.size ≤ gb353) : w0.heap.size ≤ gb353)); replace HK := Aside0.mk (KeepBut.trans (by repeat (first | (with_reducible first | exact HK.out | apply kS | apply kN | apply kD | apply kA) | exact HK.out)) (KeepBut.of_below hb g none) (.inl rfl)); have NB0_353 := Aside0.mk ((by rw [hg]; exact Nat.ne_of_lt (IsS76.lt (show IsS76 w0 _ g s0_0 s0_1 s0_2 from by repeat (first | (with_reducible first | exact HI0.out | apply i76A | apply i76N | apply i76D | apply IsS76.set_1 | apply IsS76.set_2) | exact HI0.out))) : g ≠ gb353)); have NB353_0 := Aside0.mk ((by rw [hg]; exact Nat.ne_of_gt (IsS76.lt (show IsS76 w0 _ g s0_0 s0_1 s0_2 from by repeat (first | (with_reducible first | exact HI0.out | apply i76A | apply i76N | apply i76D | apply IsS76.set_1 | apply IsS76.set_2) | exact HI0.out))) : gb353 ≠ g)); replace HI0 := Aside0.mk (IsS76.below (by repeat (first | (with_reducible first | exact HI0.out | apply i76A | apply i76N | apply i76D | apply IsS76.set_1 | apply IsS76.set_2) | exact HI0.out)) hb); clear hb hbox hg) | ((with_reducible refine gate_callee (f := 40) rfl ?_); refine goesL_ (some 5) rfl rfl Try.func40 (by kernel_rfl) rfl #[.pointer (some ⟨g, 0, none⟩), .int .i64 60] rfl (by (try simp only [sD, sE, sF]); first | done | rfl) ?_; (with_reducible refine (spec_l1Below.calls g s0_0 s0_1 s0_2 60 t354 t355 t356 w0 _ ?side1 ?side2 A2.out).mono ?_); (case side1 => repeat (first | (with_reducible first | exact HI0.out | apply i76A | apply i76N | apply i76D | apply IsS76.set_1 | apply IsS76.set_2 | refine IsS76.far ?_ NB0_353.out _) | exact HI0.out)); (case side2 => repeat (first | (with_reducible first | exact HB.out | apply bA | apply bN | apply bD | refine bS ?_ (IsS76.ge HI0.out) | refine bS ?_ GE353.out) | exact HB.out)); rintro e w5 ⟨rfl, hi, hb, hk⟩; refine ⟨_, rfl, ?_⟩; replace BK353 := Aside0.mk (KeepBut.blk hk (g' := gb353) (o := .cells #[.int .i64 0, .int .i64 0] 41 (0, 0)) (by (with_reducible repeat (first | refine dN ?_ _ | refine dW ?_ | refine dA ?_ _)); exact BK353.out) NB353_0.out (by simp)); replace HK := Aside0.mk (KeepBut.trans (by repeat (first | (with_reducible first | exact HK.out | apply kS | apply kN | apply kD | apply kA | refine kF ?_ GW353.out _) | exact HK.out)) hk (.inl rfl)); replace HB := Aside0.mk (hb); replace HI0 := Aside0.mk (hi); (try clear hb); (try clear hb2); (try clear hk); (try clear hi)) | ((with_reducible refine gate_callee (f := 40) rfl ?_); refine goesL_ (some 9) rfl rfl Try.func40 (by kernel_rfl) rfl #[.pointer (some ⟨g, 0, none⟩), .int .i64 30] rfl (by (try simp only [sD, sE, sF]); first | done | rfl) ?_; (with_reducible refine (spec_l1Below.calls g s0_0 t355 t356 30 t357 t358 t359 w0 _ ?side1 ?side2 A3.out).mono ?_); (case side1 => repeat (first | (with_reducible first | exact HI0.out | apply i76A | apply i76N | apply i76D | apply IsS76.set_1 | apply IsS76.set_2 | refine IsS76.far ?_ NB0_353.out _) | exact HI0.out)); (case side2 => repeat (first | (with_reducible first | exact HB.out | apply bA | apply bN | apply bD | refine bS ?_ (IsS76.ge HI0.out) | refine bS ?_ GE353.out) | exact HB.out)); rintro e w6 ⟨rfl, hi, hb, hk⟩; refine ⟨_, rfl, ?_⟩; replace BK353 := Aside0.mk (KeepBut.blk hk (g' := gb353) (o := .cells #[.int .i64 0, .int .i64 0] 41 (0, 0)) (by (with_reducible repeat (first | refine dN ?_ _ | refine dW ?_ | refine dA ?_ _)); exact BK353.out) NB353_0.out (by simp)); replace HK := Aside0.mk (KeepBut.trans (by repeat (first | (with_reducible first | exact HK.out | apply kS | apply kN | apply kD | apply kA | refine kF ?_ GW353.out _) | exact HK.out)) hk (.inl rfl)); replace HB := Aside0.mk (hb); replace HI0 := Aside0.mk (hi); (try clear hb); (try clear hb2); (try clear hk); (try clear hi); have hnb7 := NB353_0.out; have hnc7 := NB0_353.out; have hcz8_0 : w6.cell? ⟨gb353, 0, none⟩ = some (.int .i64 0) := (blk_cell BK353.out 0).trans rfl; have hcz8_1 : w6.cell? ⟨gb353, 1, none⟩ = some (.int .i64 0) := (blk_cell BK353.out 1).trans rfl; have hfz8_0 := blk_frozen BK353.out 0; have hfz8_1 := blk_frozen BK353.out 1))
 refine bodyPost_ret (results_cell_row rfl _ _ gb353 41 #[.int .i64 t354, .int .i64 (wrap64 (t354 + t357))] (0, 0) _ rfl (by (with_reducible repeat (first | refine dN ?_ _ | refine dW ?_ | refine dA ?_ _)); refine blk_put (cs := #[.int .i64 t354, .int .i64 0]) ?_ 1 _ rfl; (with_reducible repeat (first | refine dN ?_ _ | refine dW ?_ | refine dA ?_ _)); refine blk_put (cs := #[.int .i64 0, .int .i64 0]) ?_ 0 _ rfl; (with_reducible repeat (first | refine dN ?_ _ | refine dW ?_ | refine dA ?_ _)); exact BK353.out) Try.underlying41 rfl (by kernel_rfl)) rfl ?_
 exact ⟨by first | rfl | (simp [errW_none, errW_some] <;> rfl) | (simp [*, errW_none, errW_some] <;> rfl), by repeat (first | (with_reducible first | exact HI0.out | apply i76A | apply i76N | apply i76D | apply IsS76.set_1 | apply IsS76.set_2 | refine IsS76.far ?_ NB0_353.out _) | exact HI0.out), by repeat (first | (with_reducible first | exact HB.out | apply bA | apply bN | apply bD | refine bS ?_ (IsS76.ge HI0.out) | refine bS ?_ GE353.out) | exact HB.out), by repeat (first | (with_reducible first | exact HK.out | apply kS | apply kN | apply kD | apply kA | refine kF ?_ GW353.out _) | exact HK.out)⟩

/-! ### spec_l5Any: function 46 -/
def spec_l5Any.f (s0_0 : List Int) (s0_1 : Int) (s0_2 : Int) : Option (Int × Int × Int × Int) := (spec_l5Draw.f s0_0 s0_1 s0_2).bind fun bt361 => ((spec_l1Below.f s0_0 bt361.2.2.1 bt361.2.2.2 10).bind fun bt366 => (if bt366.1 = 0 then ((spec_l4Raw.f s0_0 bt366.2.1 bt366.2.2).bind fun bt369 => (some (bt369.1, bt361.2.1, bt369.2.1, bt369.2.2))) else (if bt366.1 = 1 then ((spec_l1Int.f s0_0 bt366.2.1 bt366.2.2 (([(-1), 0, 100000, 100001] : List Int))).bind fun bt375 => (some (bt361.1, bt375.1, bt375.2.1, bt375.2.2))) else (some (bt361.1, bt361.2.1, bt366.2.1, bt366.2.2)))))
set_option maxHeartbeats 8000000 in
set_option maxRecDepth 100000 in
theorem spec_l5Any.calls (g : Nat) (s0_0 : List Int) (s0_1 : Int) (s0_2 : Int) (r1 : Int) (r2 : Int) (r3 : Int) (r4 : Int) (w0 w : World) (hI : IsS76 w0 w g s0_0 s0_1 s0_2) (hB : Below w0.heap.size w0 w) (h : spec_l5Any.f s0_0 s0_1 s0_2 = some (r1, r2, r3, r4)) :
  Calls Try.prog 46 #[.pointer (some ⟨g, 0, none⟩)] w fun e w' => e = .returned (.agg #[.int .i64 r1, .int .i64 r2]) ∧ IsS76 w0 w' g s0_0 r3 r4 ∧ Below w0.heap.size w0 w' ∧ KeepBut w w' g none := by
 have hu41 := Try.underlying41
 have HI0 := Aside0.mk hI
 have HK := Aside0.mk (KeepBut.refl w g none)
 have HL := Aside0.mk hB.size
 clear hI
 have HW0 := Aside0.mk hB.size
 have HB := Aside0.mk hB
 clear hB
 have H : ((spec_l5Draw.f s0_0 s0_1 s0_2).bind fun bt361 => ((spec_l1Below.f s0_0 bt361.2.2.1 bt361.2.2.2 10).bind fun bt366 => (if bt366.1 = 0 then ((spec_l4Raw.f s0_0 bt366.2.1 bt366.2.2).bind fun bt369 => (some (bt369.1, bt361.2.1, bt369.2.1, bt369.2.2))) else (if bt366.1 = 1 then ((spec_l1Int.f s0_0 bt366.2.1 bt366.2.2 (([(-1), 0, 100000, 100001] : List Int))).bind fun bt375 => (some (bt361.1, bt375.1, bt375.2.1, bt375.2.2))) else (some (bt361.1, bt361.2.1, bt366.2.1, bt366.2.2)))))) = some (r1, r2, r3, r4) := h
 clear h
 replace H := obm H
 obtain ⟨⟨t361, t362, t363, t364⟩, A20, H⟩ := H
 replace H : ((spec_l1Below.f s0_0 t363 t364 10).bind fun bt366 => (if bt366.1 = 0 then ((spec_l4Raw.f s0_0 bt366.2.1 bt366.2.2).bind fun bt369 => (some (bt369.1, t362, bt369.2.1, bt369.2.2))) else (if bt366.1 = 1 then ((spec_l1Int.f s0_0 bt366.2.1 bt366.2.2 (([(-1), 0, 100000, 100001] : List Int))).bind fun bt375 => (some (t361, bt375.1, bt375.2.1, bt375.2.2))) else (some (t361, t362, bt366.2.1, bt366.2.2))))) = some (r1, r2, r3, r4) := H
 have A2 := Aside0.mk A20
 clear A20
 replace H := obm H
 obtain ⟨⟨t366, t367, t368⟩, A30, H⟩ := H
 replace H : (if t366 = 0 then ((spec_l4Raw.f s0_0 t367 t368).bind fun bt369 => (some (bt369.1, t362, bt369.2.1, bt369.2.2))) else (if t366 = 1 then ((spec_l1Int.f s0_0 t367 t368 (([(-1), 0, 100000, 100001] : List Int))).bind fun bt375 => (some (t361, bt375.1, bt375.2.1, bt375.2.2))) else (some (t361, t362, t367, t368)))) = some (r1, r2, r3, r4) := H
 have A3 := Aside0.mk A30
 clear A30
 by_cases c4 : t366 = 0
 ·rw [if_pos c4] at H
  have c4b0 : (t366 == 0) = true := beq_iff_eq.mpr c4
  have c4b1 : (t366 != 0) = false := bne_eq_false_iff_eq.mpr c4
  clear c4
  replace H := obm H
  obtain ⟨⟨t369, t370, t371⟩, A50, H⟩ := H
  replace H : (some (t369, t362, t370, t371)) = some (r1, r2, r3, r4) := H
  have A5 := Aside0.mk A50
  clear A50
  simp only [Option.some.injEq, Prod.mk.injEq] at H
  obtain ⟨rfl, rfl, rfl, rfl⟩ := H
  go_enter Try.func46, Try.ntmps46
  go_wp2_with (first | ((with_reducible refine gate_dst (N := 2) rfl ?_); refine box_event ?hg (N := 2) ?hd (cs := #[.int .i64 0, .int .i64 0]) (t := 41) ?hr ?_; (case hd => rfl); (case hg => rfl); (case hr => first | (go_simp; done) | (go_simp; rfl)); intro gb360 hg w6 hbox hb; replace HB := Aside0.mk (below_step (by repeat (first | (with_reducible first | exact HB.out | apply bA | apply bN | apply bD | refine bS ?_ (IsS76.ge HI0.out)) | exact HB.out)) hb); have BK360 := Aside0.mk (hbox); have GW360 := Aside0.mk ((by rw [hg]; exact (keep_size (w := w) (g := g) (row := none) (by repeat (first | (with_reducible first | exact HK.out | apply kS | apply kN | apply kD | apply kA) | exact HK.out))) : w.heap.size ≤ gb360)); have GE360 := Aside0.mk ((Nat.le_trans HW0.out (by rw [hg]; exact (keep_size (w := w) (g := g) (row := none) (by repeat (first | (with_reducible first | exact HK.out | apply kS | apply kN | apply kD | apply kA) | exact HK.out))) : w.heap.size ≤ gb360) : w0.heap.size ≤ gb360)); replace HK := Aside0.mk (KeepBut.trans (by repeat (first | (with_reducible first | exact HK.out | apply kS | apply kN | apply kD | apply kA) | exact HK.out)) (KeepBut.of_below hb g none) (.inl rfl)); have NB0_360 := Aside0.mk ((by rw [hg]; exact Nat.ne_of_lt (IsS76.lt (show IsS76 w0 _ g s0_0 s0_1 s0_2 from by repeat (first | (with_reducible first | exact HI0.out | apply i76A | apply i76N | apply i76D | apply IsS76.set_1 | apply IsS76.set_2) | exact HI0.out))) : g ≠ gb360)); have NB360_0 := Aside0.mk ((by rw [hg]; exact Nat.ne_of_gt (IsS76.lt (show IsS76 w0 _ g s0_0 s0_1 s0_2 from by repeat (first | (with_reducible first | exact HI0.out | apply i76A | apply i76N | apply i76D | apply IsS76.set_1 | apply IsS76.set_2) | exact HI0.out))) : gb360 ≠ g)); replace HI0 := Aside0.mk (IsS76.below (by repeat (first | (with_reducible first | exact HI0.out | apply i76A | apply i76N | apply i76D | apply IsS76.set_1 | apply IsS76.set_2) | exact HI0.out)) hb); clear hb hbox hg) | ((with_reducible refine gate_callee (f := 62) rfl ?_); refine goesL_ (some 5) rfl rfl Try.func62 (by kernel_rfl) rfl #[.pointer (some ⟨g, 0, none⟩)] rfl (by (try simp only [sD, sE, sF]); first | done | rfl) ?_; (with_reducible refine (spec_l5Draw.calls g s0_0 s0_1 s0_2 t361 t362 t363 t364 w0 _ ?side1 ?side2 A2.out).mono ?_); (case side1 => repeat (first | (with_reducible first | exact HI0.out | apply i76A | apply i76N | apply i76D | apply IsS76.set_1 | apply IsS76.set_2 | refine IsS76.far ?_ NB0_360.out _) | exact HI0.out)); (case side2 => repeat (first | (with_reducible first | exact HB.out | apply bA | apply bN | apply bD | refine bS ?_ (IsS76.ge HI0.out) | refine bS ?_ GE360.out) | exact HB.out)); rintro e w7 ⟨rfl, hi, hb, hk⟩; refine ⟨_, rfl, ?_⟩; replace BK360 := Aside0.mk (KeepBut.blk hk (g' := gb360) (o := .cells #[.int .i64 0, .int .i64 0] 41 (0, 0)) (by (with_reducible repeat (first | refine dN ?_ _ | refine dW ?_ | refine dA ?_ _)); exact BK360.out) NB360_0.out (by simp)); replace HK := Aside0.mk (KeepBut.trans (by repeat (first | (with_reducible first | exact HK.out | apply kS | apply kN | apply kD | apply kA | refine kF ?_ GW360.out _) | exact HK.out)) hk (.inl rfl)); replace HB := Aside0.mk (hb); replace HI0 := Aside0.mk (hi); (try clear hb); (try clear hb2); (try clear hk); (try clear hi)) | ((with_reducible refine gate_dst (N := 3) rfl ?_); refine box_event ?hg (N := 3) ?hd (cs := #[.int .i64 0, .int .i64 0]) (t := 41) ?hr ?_; (case hd => rfl); (case hg => rfl); (case hr => first | (go_simp; done) | (go_simp; rfl)); intro gb365 hg w8 hbox hb; replace HB := Aside0.mk (below_step (by repeat (first | (with_reducible first | exact HB.out | apply bA | apply bN | apply bD | refine bS ?_ (IsS76.ge HI0.out) | refine bS ?_ GE360.out) | exact HB.out)) hb); have BK365 := Aside0.mk (hbox); have GW365 := Aside0.mk ((by rw [hg]; exact (keep_size (w := w) (g := g) (row := none) (by repeat (first | (with_reducible first | exact HK.out | apply kS | apply kN | apply kD | apply kA | refine kF ?_ GW360.out _) | exact HK.out))) : w.heap.size ≤ gb365)); have GE365 := Aside0.mk ((Nat.le_trans HW0.out (by rw [hg]; exact (keep_size (w := w) (g := g) (row := none) (by repeat (first | (with_reducible first | exact HK.out | apply kS | apply kN | apply kD | apply kA | refine kF ?_ GW360.out _) | exact HK.out))) : w.heap.size ≤ gb365) : w0.heap.size ≤ gb365)); replace HK := Aside0.mk (KeepBut.trans (by repeat (first | (with_reducible first | exact HK.out | apply kS | apply kN | apply kD | apply kA | refine kF ?_ GW360.out _) | exact HK.out)) (KeepBut.of_below hb g none) (.inl rfl)); have NB360_365 := Aside0.mk ((by rw [hg]; exact Nat.ne_of_lt (blk_lt (g := gb360) (o := .cells #[.int .i64 0, .int .i64 0] 41 (0, 0)) (by (with_reducible repeat (first | refine dN ?_ _ | refine dW ?_ | refine dA ?_ _)); exact BK360.out)) : gb360 ≠ gb365)); have NB365_360 := Aside0.mk ((by rw [hg]; exact Nat.ne_of_gt (blk_lt (g := gb360) (o := .cells #[.int .i64 0, .int .i64 0] 41 (0, 0)) (by (with_reducible repeat (first | refine dN ?_ _ | refine dW ?_ | refine dA ?_ _)); exact BK360.out)) : gb365 ≠ gb360)); replace BK360 := qcb hb BK360; have NB0_365 := Aside0.mk ((by rw [hg]; exact Nat.ne_of_lt (IsS76.lt (show IsS76 w0 _ g s0_0 t363 t364 from by repeat (first | (with_reducible first | exact HI0.out | apply i76A | apply i76N | apply i76D | apply IsS76.set_1 | apply IsS76.set_2 | refine IsS76.far ?_ NB0_360.out _) | exact HI0.out))) : g ≠ gb365)); have NB365_0 := Aside0.mk ((by rw [hg]; exact Nat.ne_of_gt (IsS76.lt (show IsS76 w0 _ g s0_0 t363 t364 from by repeat (first | (with_reducible first | exact HI0.out | apply i76A | apply i76N | apply i76D | apply IsS76.set_1 | apply IsS76.set_2 | refine IsS76.far ?_ NB0_360.out _) | exact HI0.out))) : gb365 ≠ g)); replace HI0 := Aside0.mk (IsS76.below (by repeat (first | (with_reducible first | exact HI0.out | apply i76A | apply i76N | apply i76D | apply IsS76.set_1 | apply IsS76.set_2 | refine IsS76.far ?_ NB0_360.out _) | exact HI0.out)) hb); clear hb hbox hg; have hnb9 := NB365_360.out; have hnc9 := NB360_365.out; have hnb10 := NB365_0.out; have hnc10 := NB0_365.out; have hcz11_0 : w8.cell? ⟨gb365, 0, none⟩ = some (.int .i64 0) := (blk_cell BK365.out 0).trans rfl; have hcz11_1 : w8.cell? ⟨gb365, 1, none⟩ = some (.int .i64 0) := (blk_cell BK365.out 1).trans rfl; have hfz11_0 := blk_frozen BK365.out 0; have hfz11_1 := blk_frozen BK365.out 1) | ((with_reducible refine gate_callee (f := 40) rfl ?_); refine goesL_ (some 7) rfl rfl Try.func40 (by kernel_rfl) rfl #[.pointer (some ⟨g, 0, none⟩), .int .i64 10] rfl (by (try simp only [sD, sE, sF]); first | done | rfl) ?_; (with_reducible refine (spec_l1Below.calls g s0_0 t363 t364 10 t366 t367 t368 w0 _ ?side1 ?side2 A3.out).mono ?_); (case side1 => repeat (first | (with_reducible first | exact HI0.out | apply i76A | apply i76N | apply i76D | apply IsS76.set_1 | apply IsS76.set_2 | refine IsS76.far ?_ NB0_360.out _ | refine IsS76.far ?_ NB0_365.out _) | exact HI0.out)); (case side2 => repeat (first | (with_reducible first | exact HB.out | apply bA | apply bN | apply bD | refine bS ?_ (IsS76.ge HI0.out) | refine bS ?_ GE360.out | refine bS ?_ GE365.out) | exact HB.out)); rintro e w12 ⟨rfl, hi, hb, hk⟩; refine ⟨_, rfl, ?_⟩; replace BK360 := Aside0.mk (KeepBut.blk hk (g' := gb360) (o := .cells #[.int .i64 0, .int .i64 0] 41 (0, 0)) (by (with_reducible repeat (first | refine dN ?_ _ | refine dW ?_ | refine dA ?_ _)); refine blk_far ?_ NB360_365.out _; (with_reducible repeat (first | refine dN ?_ _ | refine dW ?_ | refine dA ?_ _)); refine blk_far ?_ NB360_365.out _; (with_reducible repeat (first | refine dN ?_ _ | refine dW ?_ | refine dA ?_ _)); exact BK360.out) NB360_0.out (by simp)); replace BK365 := Aside0.mk (KeepBut.blk hk (g' := gb365) (o := .cells #[.int .i64 t361, .int .i64 t362] 41 (0, 0)) (by (with_reducible repeat (first | refine dN ?_ _ | refine dW ?_ | refine dA ?_ _)); refine blk_put (cs := #[.int .i64 t361, .int .i64 0]) ?_ 1 _ rfl; (with_reducible repeat (first | refine dN ?_ _ | refine dW ?_ | refine dA ?_ _)); refine blk_put (cs := #[.int .i64 0, .int .i64 0]) ?_ 0 _ rfl; (with_reducible repeat (first | refine dN ?_ _ | refine dW ?_ | refine dA ?_ _)); exact BK365.out) NB365_0.out (by simp)); replace HK := Aside0.mk (KeepBut.trans (by repeat (first | (with_reducible first | exact HK.out | apply kS | apply kN | apply kD | apply kA | refine kF ?_ GW360.out _ | refine kF ?_ GW365.out _) | exact HK.out)) hk (.inl rfl)); replace HB := Aside0.mk (hb); replace HI0 := Aside0.mk (hi); (try clear hb); (try clear hb2); (try clear hk); (try clear hi)) | ((with_reducible refine gate_callee (f := 57) rfl ?_); refine goesL_ (some 11) rfl rfl Try.func57 (by kernel_rfl) rfl #[.pointer (some ⟨g, 0, none⟩)] rfl (by (try simp only [sD, sE, sF]); first | done | rfl) ?_; (with_reducible refine (spec_l4Raw.calls g s0_0 t367 t368 t369 t370 t371 w0 _ ?side1 ?side2 A5.out).mono ?_); (case side1 => repeat (first | (with_reducible first | exact HI0.out | apply i76A | apply i76N | apply i76D | apply IsS76.set_1 | apply IsS76.set_2 | refine IsS76.far ?_ NB0_360.out _ | refine IsS76.far ?_ NB0_365.out _) | exact HI0.out)); (case side2 => repeat (first | (with_reducible first | exact HB.out | apply bA | apply bN | apply bD | refine bS ?_ (IsS76.ge HI0.out) | refine bS ?_ GE360.out | refine bS ?_ GE365.out) | exact HB.out)); rintro e w13 ⟨rfl, hi, hb, hk⟩; refine ⟨_, rfl, ?_⟩; replace BK360 := Aside0.mk (KeepBut.blk hk (g' := gb360) (o := .cells #[.int .i64 0, .int .i64 0] 41 (0, 0)) (by (with_reducible repeat (first | refine dN ?_ _ | refine dW ?_ | refine dA ?_ _)); exact BK360.out) NB360_0.out (by simp)); replace BK365 := Aside0.mk (KeepBut.blk hk (g' := gb365) (o := .cells #[.int .i64 t361, .int .i64 t362] 41 (0, 0)) (by (with_reducible repeat (first | refine dN ?_ _ | refine dW ?_ | refine dA ?_ _)); exact BK365.out) NB365_0.out (by simp)); replace HK := Aside0.mk (KeepBut.trans (by repeat (first | (with_reducible first | exact HK.out | apply kS | apply kN | apply kD | apply kA | refine kF ?_ GW360.out _ | refine kF ?_ GW365.out _) | exact HK.out)) hk (.inl rfl)); replace HB := Aside0.mk (hb); replace HI0 := Aside0.mk (hi); (try clear hb); (try clear hb2); (try clear hk); (try clear hi); have hcz14_0 : w13.cell? ⟨gb365, 0, none⟩ = some (.int .i64 t361) := (blk_cell BK365.out 0).trans rfl; have hcz14_1 : w13.cell? ⟨gb365, 1, none⟩ = some (.int .i64 t362) := (blk_cell BK365.out 1).trans rfl; have hfz14_0 := blk_frozen BK365.out 0; have hfz14_1 := blk_frozen BK365.out 1; have hnb15 := NB360_0.out; have hnc15 := NB0_360.out; have hcz16_0 : w13.cell? ⟨gb360, 0, none⟩ = some (.int .i64 0) := (blk_cell BK360.out 0).trans rfl; have hcz16_1 : w13.cell? ⟨gb360, 1, none⟩ = some (.int .i64 0) := (blk_cell BK360.out 1).trans rfl; have hfz16_0 := blk_frozen BK360.out 0; have hfz16_1 := blk_frozen BK360.out 1))
  refine bodyPost_ret (results_cell_row rfl _ _ gb360 41 #[.int .i64 t369, .int .i64 t362] (0, 0) _ rfl (by (with_reducible repeat (first | refine dN ?_ _ | refine dW ?_ | refine dA ?_ _)); refine blk_put (cs := #[.int .i64 t369, .int .i64 0]) ?_ 1 _ rfl; (with_reducible repeat (first | refine dN ?_ _ | refine dW ?_ | refine dA ?_ _)); refine blk_put (cs := #[.int .i64 0, .int .i64 0]) ?_ 0 _ rfl; (with_reducible repeat (first | refine dN ?_ _ | refine dW ?_ | refine dA ?_ _)); refine blk_far ?_ NB360_365.out _; (with_reducible repeat (first | refine dN ?_ _ | refine dW ?_ | refine dA ?_ _)); exact BK360.out) Try.underlying41 rfl (by kernel_rfl)) rfl ?_
  exact ⟨by first | rfl | (simp [errW_none, errW_some] <;> rfl) | (simp [*, errW_none, errW_some] <;> rfl), by repeat (first | (with_reducible first | exact HI0.out | apply i76A | apply i76N | apply i76D | apply IsS76.set_1 | apply IsS76.set_2 | refine IsS76.far ?_ NB0_360.out _ | refine IsS76.far ?_ NB0_365.out _) | exact HI0.out), by repeat (first | (with_reducible first | exact HB.out | apply bA | apply bN | apply bD | refine bS ?_ (IsS76.ge HI0.out) | refine bS ?_ GE360.out | refine bS ?_ GE365.out) | exact HB.out), by repeat (first | (with_reducible first | exact HK.out | apply kS | apply kN | apply kD | apply kA | refine kF ?_ GW360.out _ | refine kF ?_ GW365.out _) | exact HK.out)⟩
 ·rw [if_neg c4] at H
  have c4b0 : (t366 == 0) = false := beq_eq_false_iff_ne.mpr c4
  have c4b1 : (t366 != 0) = true := bne_iff_ne.mpr c4
  by_cases c17 : t366 = 1
  ·rw [if_pos c17] at H
   have c17b0 : (t366 == 1) = true := beq_iff_eq.mpr c17
   have c17b1 : (t366 != 1) = false := bne_eq_false_iff_eq.mpr c17
   clear c17
   obtain ⟨y372, hy372⟩ : ∃ y_ : List Int, y_ = (([(-1), 0, 100000, 100001] : List Int)) := ⟨_, rfl⟩
   replace H : ((spec_l1Int.f s0_0 t367 t368 y372).bind fun bt375 => (some (t361, bt375.1, bt375.2.1, bt375.2.2))) = some (r1, r2, r3, r4) := by first | (rw [hy372]; with_reducible exact H) | (have H2_ := (Option.bind_some _ _).symm.trans H; rw [hy372]; with_reducible exact H2_) | (have H2_ := (Option.bind_some _ _).symm.trans H; with_reducible exact H2_) | with_reducible exact H | (rw [hy372]; exact H) | exact H
   have Ny372 := Aside0.mk hy372
   clear hy372
   replace H := obm H
   obtain ⟨⟨t375, t376, t377⟩, A180, H⟩ := H
   replace H : (some (t361, t375, t376, t377)) = some (r1, r2, r3, r4) := H
   have A18 := Aside0.mk A180
   clear A180
   simp only [Option.some.injEq, Prod.mk.injEq] at H
   obtain ⟨rfl, rfl, rfl, rfl⟩ := H
   go_enter Try.func46, Try.ntmps46
   go_wp2_with (first | ((with_reducible refine gate_dst (N := 2) rfl ?_); refine box_event ?hg (N := 2) ?hd (cs := #[.int .i64 0, .int .i64 0]) (t := 41) ?hr ?_; (case hd => rfl); (case hg => rfl); (case hr => first | (go_simp; done) | (go_simp; rfl)); intro gb360 hg w19 hbox hb; replace HB := Aside0.mk (below_step (by repeat (first | (with_reducible first | exact HB.out | apply bA | apply bN | apply bD | refine bS ?_ (IsS76.ge HI0.out)) | exact HB.out)) hb); have BK360 := Aside0.mk (hbox); have GW360 := Aside0.mk ((by rw [hg]; exact (keep_size (w := w) (g := g) (row := none) (by repeat (first | (with_reducible first | exact HK.out | apply kS | apply kN | apply kD | apply kA) | exact HK.out))) : w.heap.size ≤ gb360)); have GE360 := Aside0.mk ((Nat.le_trans HW0.out (by rw [hg]; exact (keep_size (w := w) (g := g) (row := none) (by repeat (first | (with_reducible first | exact HK.out | apply kS | apply kN | apply kD | apply kA) | exact HK.out))) : w.heap.size ≤ gb360) : w0.heap.size ≤ gb360)); replace HK := Aside0.mk (KeepBut.trans (by repeat (first | (with_reducible first | exact HK.out | apply kS | apply kN | apply kD | apply kA) | exact HK.out)) (KeepBut.of_below hb g none) (.inl rfl)); have NB0_360 := Aside0.mk ((by rw [hg]; exact Nat.ne_of_lt (IsS76.lt (show IsS76 w0 _ g s0_0 s0_1 s0_2 from by repeat (first | (with_reducible first | exact HI0.out | apply i76A | apply i76N | apply i76D | apply IsS76.set_1 | apply IsS76.set_2) | exact HI0.out))) : g ≠ gb360)); have NB360_0 := Aside0.mk ((by rw [hg]; exact Nat.ne_of_gt (IsS76.lt (show IsS76 w0 _ g s0_0 s0_1 s0_2 from by repeat (first | (with_reducible first | exact HI0.out | apply i76A | apply i76N | apply i76D | apply IsS76.set_1 | apply IsS76.set_2) | exact HI0.out))) : gb360 ≠ g)); replace HI0 := Aside0.mk (IsS76.below (by repeat (first | (with_reducible first | exact HI0.out | apply i76A | apply i76N | apply i76D | apply IsS76.set_1 | apply IsS76.set_2) | exact HI0.out)) hb); clear hb hbox hg) | ((with_reducible refine gate_callee (f := 62) rfl ?_); refine goesL_ (some 5) rfl rfl Try.func62 (by kernel_rfl) rfl #[.pointer (some ⟨g, 0, none⟩)] rfl (by (try simp only [sD, sE, sF]); first | done | rfl) ?_; (with_reducible refine (spec_l5Draw.calls g s0_0 s0_1 s0_2 t361 t362 t363 t364 w0 _ ?side1 ?side2 A2.out).mono ?_); (case side1 => repeat (first | (with_reducible first | exact HI0.out | apply i76A | apply i76N | apply i76D | apply IsS76.set_1 | apply IsS76.set_2 | refine IsS76.far ?_ NB0_360.out _) | exact HI0.out)); (case side2 => repeat (first | (with_reducible first | exact HB.out | apply bA | apply bN | apply bD | refine bS ?_ (IsS76.ge HI0.out) | refine bS ?_ GE360.out) | exact HB.out)); rintro e w20 ⟨rfl, hi, hb, hk⟩; refine ⟨_, rfl, ?_⟩; replace BK360 := Aside0.mk (KeepBut.blk hk (g' := gb360) (o := .cells #[.int .i64 0, .int .i64 0] 41 (0, 0)) (by (with_reducible repeat (first | refine dN ?_ _ | refine dW ?_ | refine dA ?_ _)); exact BK360.out) NB360_0.out (by simp)); replace HK := Aside0.mk (KeepBut.trans (by repeat (first | (with_reducible first | exact HK.out | apply kS | apply kN | apply kD | apply kA | refine kF ?_ GW360.out _) | exact HK.out)) hk (.inl rfl)); replace HB := Aside0.mk (hb); replace HI0 := Aside0.mk (hi); (try clear hb); (try clear hb2); (try clear hk); (try clear hi)) | ((with_reducible refine gate_dst (N := 3) rfl ?_); refine box_event ?hg (N := 3) ?hd (cs := #[.int .i64 0, .int .i64 0]) (t := 41) ?hr ?_; (case hd => rfl); (case hg => rfl); (case hr => first | (go_simp; done) | (go_simp; rfl)); intro gb365 hg w21 hbox hb; replace HB := Aside0.mk (below_step (by repeat (first | (with_reducible first | exact HB.out | apply bA | apply bN | apply bD | refine bS ?_ (IsS76.ge HI0.out) | refine bS ?_ GE360.out) | exact HB.out)) hb); have BK365 := Aside0.mk (hbox); have GW365 := Aside0.mk ((by rw [hg]; exact (keep_size (w := w) (g := g) (row := none) (by repeat (first | (with_reducible first | exact HK.out | apply kS | apply kN | apply kD | apply kA | refine kF ?_ GW360.out _) | exact HK.out))) : w.heap.size ≤ gb365)); have GE365 := Aside0.mk ((Nat.le_trans HW0.out (by rw [hg]; exact (keep_size (w := w) (g := g) (row := none) (by repeat (first | (with_reducible first | exact HK.out | apply kS | apply kN | apply kD | apply kA | refine kF ?_ GW360.out _) | exact HK.out))) : w.heap.size ≤ gb365) : w0.heap.size ≤ gb365)); replace HK := Aside0.mk (KeepBut.trans (by repeat (first | (with_reducible first | exact HK.out | apply kS | apply kN | apply kD | apply kA | refine kF ?_ GW360.out _) | exact HK.out)) (KeepBut.of_below hb g none) (.inl rfl)); have NB360_365 := Aside0.mk ((by rw [hg]; exact Nat.ne_of_lt (blk_lt (g := gb360) (o := .cells #[.int .i64 0, .int .i64 0] 41 (0, 0)) (by (with_reducible repeat (first | refine dN ?_ _ | refine dW ?_ | refine dA ?_ _)); exact BK360.out)) : gb360 ≠ gb365)); have NB365_360 := Aside0.mk ((by rw [hg]; exact Nat.ne_of_gt (blk_lt (g := gb360) (o := .cells #[.int .i64 0, .int .i64 0] 41 (0, 0)) (by (with_reducible repeat (first | refine dN ?_ _ | refine dW ?_ | refine dA ?_ _)); exact BK360.out)) : gb365 ≠ gb360)); replace BK360 := qcb hb BK360; have NB0_365 := Aside0.mk ((by rw [hg]; exact Nat.ne_of_lt (IsS76.lt (show IsS76 w0 _ g s0_0 t363 t364 from by repeat (first | (with_reducible first | exact HI0.out | apply i76A | apply i76N | apply i76D | apply IsS76.set_1 | apply IsS76.set_2 | refine IsS76.far ?_ NB0_360.out _) | exact HI0.out))) : g ≠ gb365)); have NB365_0 := Aside0.mk ((by rw [hg]; exact Nat.ne_of_gt (IsS76.lt (show IsS76 w0 _ g s0_0 t363 t364 from by repeat (first | (with_reducible first | exact HI0.out | apply i76A | apply i76N | apply i76D | apply IsS76.set_1 | apply IsS76.set_2 | refine IsS76.far ?_ NB0_360.out _) | exact HI0.out))) : gb365 ≠ g)); replace HI0 := Aside0.mk (IsS76.below (by repeat (first | (with_reducible first | exact HI0.out | apply i76A | apply i76N | apply i76D | apply IsS76.set_1 | apply IsS76.set_2 | refine IsS76.far ?_ NB0_360.out _) | exact HI0.out)) hb); clear hb hbox hg; have hnb22 := NB365_360.out; have hnc22 := NB360_365.out; have hnb23 := NB365_0.out; have hnc23 := NB0_365.out; have hcz24_0 : w21.cell? ⟨gb365, 0, none⟩ = some (.int .i64 0) := (blk_cell BK365.out 0).trans rfl; have hcz24_1 : w21.cell? ⟨gb365, 1, none⟩ = some (.int .i64 0) := (blk_cell BK365.out 1).trans rfl; have hfz24_0 := blk_frozen BK365.out 0; have hfz24_1 := blk_frozen BK365.out 1) | ((with_reducible refine gate_callee (f := 40) rfl ?_); refine goesL_ (some 7) rfl rfl Try.func40 (by kernel_rfl) rfl #[.pointer (some ⟨g, 0, none⟩), .int .i64 10] rfl (by (try simp only [sD, sE, sF]); first | done | rfl) ?_; (with_reducible refine (spec_l1Below.calls g s0_0 t363 t364 10 t366 t367 t368 w0 _ ?side1 ?side2 A3.out).mono ?_); (case side1 => repeat (first | (with_reducible first | exact HI0.out | apply i76A | apply i76N | apply i76D | apply IsS76.set_1 | apply IsS76.set_2 | refine IsS76.far ?_ NB0_360.out _ | refine IsS76.far ?_ NB0_365.out _) | exact HI0.out)); (case side2 => repeat (first | (with_reducible first | exact HB.out | apply bA | apply bN | apply bD | refine bS ?_ (IsS76.ge HI0.out) | refine bS ?_ GE360.out | refine bS ?_ GE365.out) | exact HB.out)); rintro e w25 ⟨rfl, hi, hb, hk⟩; refine ⟨_, rfl, ?_⟩; replace BK360 := Aside0.mk (KeepBut.blk hk (g' := gb360) (o := .cells #[.int .i64 0, .int .i64 0] 41 (0, 0)) (by (with_reducible repeat (first | refine dN ?_ _ | refine dW ?_ | refine dA ?_ _)); refine blk_far ?_ NB360_365.out _; (with_reducible repeat (first | refine dN ?_ _ | refine dW ?_ | refine dA ?_ _)); refine blk_far ?_ NB360_365.out _; (with_reducible repeat (first | refine dN ?_ _ | refine dW ?_ | refine dA ?_ _)); exact BK360.out) NB360_0.out (by simp)); replace BK365 := Aside0.mk (KeepBut.blk hk (g' := gb365) (o := .cells #[.int .i64 t361, .int .i64 t362] 41 (0, 0)) (by (with_reducible repeat (first | refine dN ?_ _ | refine dW ?_ | refine dA ?_ _)); refine blk_put (cs := #[.int .i64 t361, .int .i64 0]) ?_ 1 _ rfl; (with_reducible repeat (first | refine dN ?_ _ | refine dW ?_ | refine dA ?_ _)); refine blk_put (cs := #[.int .i64 0, .int .i64 0]) ?_ 0 _ rfl; (with_reducible repeat (first | refine dN ?_ _ | refine dW ?_ | refine dA ?_ _)); exact BK365.out) NB365_0.out (by simp)); replace HK := Aside0.mk (KeepBut.trans (by repeat (first | (with_reducible first | exact HK.out | apply kS | apply kN | apply kD | apply kA | refine kF ?_ GW360.out _ | refine kF ?_ GW365.out _) | exact HK.out)) hk (.inl rfl)); replace HB := Aside0.mk (hb); replace HI0 := Aside0.mk (hi); (try clear hb); (try clear hb2); (try clear hk); (try clear hi)) | ((with_reducible refine gate_dst (N := 16) rfl ?_); refine Kd.R_lit (Kd.int .i64) _ 3 ?hg (N := 16) ?hd (xs := ([(-1), 0, 100000, 100001] : List Int)) (inner := [.int .i64 (-1), .int .i64 0, .int .i64 100000, .int .i64 100001]) (ok := fun _ => True) (okp := fun _ => True) ?hr ?hp (fun _ hk => hk) trivial (Below.refl _ _) (Nat.le_refl _) (by simp) ?_; (case hd => rfl); (case hg => rfl); (case hr => first | (go_simp; done) | (go_simp; rfl)); (case hp => exact (Reps.one (show Kd.M (Kd.int .i64) _ _ _ (-1) [.int .i64 (-1)] from rfl) (Reps.one (show Kd.M (Kd.int .i64) _ _ _ 0 [.int .i64 0] from rfl) (Reps.one (show Kd.M (Kd.int .i64) _ _ _ 100000 [.int .i64 100000] from rfl) (Reps.one (show Kd.M (Kd.int .i64) _ _ _ 100001 [.int .i64 100001] from rfl) (Reps.none _ _)))))); intro v373 w26 ho27 hb hg_ hnew_; clear hg_ hnew_; (first | rw [← Ny372.out] at ho27 | (simp only [Int.reduceToNat] at ho27; rw [← Ny372.out] at ho27)); have HO374 := Aside0.mk (Kd.R_lower ho27 (keep_size (w := w) (g := g) (row := none) (by repeat (first | (with_reducible first | exact HK.out | apply kS | apply kN | apply kD | apply kA | refine kF ?_ GW360.out _ | refine kF ?_ GW365.out _) | exact HK.out)))); replace HI0 := Aside0.mk (IsS76.below (by repeat (first | (with_reducible first | exact HI0.out | apply i76A | apply i76N | apply i76D | apply IsS76.set_1 | apply IsS76.set_2 | refine IsS76.far ?_ NB0_360.out _ | refine IsS76.far ?_ NB0_365.out _) | exact HI0.out)) hb); replace BK360 := qcb hb BK360; replace BK365 := qcb hb BK365; replace HK := Aside0.mk (KeepBut.trans (by repeat (first | (with_reducible first | exact HK.out | apply kS | apply kN | apply kD | apply kA | refine kF ?_ GW360.out _ | refine kF ?_ GW365.out _) | exact HK.out)) (KeepBut.of_below hb g none) (.inl rfl)); replace HB := Aside0.mk (below_step (by repeat (first | (with_reducible first | exact HB.out | apply bA | apply bN | apply bD | refine bS ?_ (IsS76.ge HI0.out) | refine bS ?_ GE360.out | refine bS ?_ GE365.out) | exact HB.out)) hb); clear hb ho27; obtain ⟨Ao28, co28, eo28⟩ := Kd.R_slice HO374.out; subst eo28) | ((with_reducible refine gate_callee (f := 56) rfl ?_); refine goesL_ (some 17) rfl rfl Try.func56 (by kernel_rfl) rfl #[.pointer (some ⟨g, 0, none⟩), .slice Ao28 y372.length co28] rfl (by (try simp only [sD, sE, sF]); first | done | rfl) ?_; (with_reducible refine (spec_l1Int.calls g s0_0 t367 t368 _ _ y372 t375 t376 t377 w0 _ ?side1 ?side2 ?side3 ?side4 ?side5 A18.out).mono ?_); (case side1 => repeat (first | (with_reducible first | exact HI0.out | apply i76A | apply i76N | apply i76D | apply IsS76.set_1 | apply IsS76.set_2 | refine IsS76.far ?_ NB0_360.out _ | refine IsS76.far ?_ NB0_365.out _) | exact HI0.out)); (case side2 => repeat (first | (with_reducible first | exact HB.out | apply bA | apply bN | apply bD | refine bS ?_ (IsS76.ge HI0.out) | refine bS ?_ GE360.out | refine bS ?_ GE365.out) | exact HB.out)); (case side3 => repeat (first | exact (Kd.R_reads' HO374.out).2.2 | (with_reducible refine cA ?_ _) | (with_reducible refine cN ?_ _) | (with_reducible refine cD ?_))); (case side4 => exact (Kd.R_reads' HO374.out).2.1); (case side5 => exact far_slice (IsS76.own_ne HI0.out HO374.out (by decide))); rintro e w29 ⟨rfl, hi, hb, hk⟩; refine ⟨_, rfl, ?_⟩; replace BK360 := Aside0.mk (KeepBut.blk hk (g' := gb360) (o := .cells #[.int .i64 0, .int .i64 0] 41 (0, 0)) (by (with_reducible repeat (first | refine dN ?_ _ | refine dW ?_ | refine dA ?_ _)); exact BK360.out) NB360_0.out (by simp)); replace BK365 := Aside0.mk (KeepBut.blk hk (g' := gb365) (o := .cells #[.int .i64 t361, .int .i64 t362] 41 (0, 0)) (by (with_reducible repeat (first | refine dN ?_ _ | refine dW ?_ | refine dA ?_ _)); exact BK365.out) NB365_0.out (by simp)); replace HO374 := Aside0.mk (Kd.R_mono (Kd.R_keep (IsS76.apart (show IsS76 w0 _ g s0_0 t367 t368 from by repeat (first | (with_reducible first | exact HI0.out | apply i76A | apply i76N | apply i76D | apply IsS76.set_1 | apply IsS76.set_2 | refine IsS76.far ?_ NB0_360.out _ | refine IsS76.far ?_ NB0_365.out _) | exact HI0.out)) (by (with_reducible repeat (first | apply rA | apply rN | apply rD)); exact HO374.out) (by decide)) hk (fun _ h => h.2)) (fun _ h => h.1)); replace HK := Aside0.mk (KeepBut.trans (by repeat (first | (with_reducible first | exact HK.out | apply kS | apply kN | apply kD | apply kA | refine kF ?_ GW360.out _ | refine kF ?_ GW365.out _) | exact HK.out)) hk (.inl rfl)); replace HB := Aside0.mk (hb); replace HI0 := Aside0.mk (hi); (try clear hb); (try clear hb2); (try clear hk); (try clear hi); have hcz30_0 : w29.cell? ⟨gb365, 0, none⟩ = some (.int .i64 t361) := (blk_cell BK365.out 0).trans rfl; have hcz30_1 : w29.cell? ⟨gb365, 1, none⟩ = some (.int .i64 t362) := (blk_cell BK365.out 1).trans rfl; have hfz30_0 := blk_frozen BK365.out 0; have hfz30_1 := blk_frozen BK365.out 1; have hnb31 := NB360_0.out; have hnc31 := NB0_360.out; have hcz32_0 : w29.cell? ⟨gb360, 0, none⟩ = some (.int .i64 0) := (blk_cell BK360.out 0).trans rfl; have hcz32_1 : w29.cell? ⟨gb360, 1, none⟩ = some (.int .i64 0) := (blk_cell BK360.out 1).trans rfl; have hfz32_0 := blk_frozen BK360.out 0; have hfz32_1 := blk_frozen BK360.out 1))
   refine bodyPost_ret (results_cell_row rfl _ _ gb360 41 #[.int .i64 t361, .int .i64 t375] (0, 0) _ rfl (by (with_reducible repeat (first | refine dN ?_ _ | refine dW ?_ | refine dA ?_ _)); refine blk_put (cs := #[.int .i64 t361, .int .i64 0]) ?_ 1 _ rfl; (with_reducible repeat (first | refine dN ?_ _ | refine dW ?_ | refine dA ?_ _)); refine blk_put (cs := #[.int .i64 0, .int .i64 0]) ?_ 0 _ rfl; (with_reducible repeat (first | refine dN ?_ _ | refine dW ?_ | refine dA ?_ _)); refine blk_far ?_ NB360_365.out _; (with_reducible repeat (first | refine dN ?_ _ | refine dW ?_ | refine dA ?_ _)); exact BK360.out) Try.underlying41 rfl (by kernel_rfl)) rfl ?_
   exact ⟨by first | rfl | (simp [errW_none, errW_some] <;> rfl) | (simp [*, errW_none, errW_some] <;> rfl), by repeat (first | (with_reducible first | exact HI0.out | apply i76A | apply i76N | apply i76D | apply IsS76.set_1 | apply IsS76.set_2 | refine IsS76.far ?_ NB0_360.out _ | refine IsS76.far ?_ NB0_365.out _) | exact HI0.out), by repeat (first | (with_reducible first | exact HB.out | apply bA | apply bN | apply bD | refine bS ?_ (IsS76.ge HI0.out) | refine bS ?_ GE360.out | refine bS ?_ GE365.out) | exact HB.out), by repeat (first | (with_reducible first | exact HK.out | apply kS | apply kN | apply kD | apply kA | refine kF ?_ GW360.out _ | refine kF ?_ GW365.out _) | exact HK.out)⟩
  ·rw [if_neg c17] at H
   have c17b0 : (t366 == 1) = false := beq_eq_false_iff_ne.mpr c17
   have c17b1 : (t366 != 1) = true := bne_iff_ne.mpr c17
   simp only [Option.some.injEq, Prod.mk.injEq] at H
   obtain ⟨rfl, rfl, rfl, rfl⟩ := H
   go_enter Try.func46, Try.ntmps46
   go_wp2_with (first | ((with_reducible refine gate_dst (N := 2) rfl ?_); refine box_event ?hg (N := 2) ?hd (cs := #[.int .i64 0, .int .i64 0]) (t := 41) ?hr ?_; (case hd => rfl); (case hg => rfl); (case hr => first | (go_simp; done) | (go_simp; rfl)); intro gb360 hg w33 hbox hb; replace HB := Aside0.mk (below_step (by repeat (first | (with_reducible first | exact HB.out | apply bA | apply bN | apply bD | refine bS ?_ (IsS76.ge HI0.out)) | exact HB.out)) hb); have BK360 := Aside0.mk (hbox); have GW360 := Aside0.mk ((by rw [hg]; exact (keep_size (w := w) (g := g) (row := none) (by repeat (first | (with_reducible first | exact HK.out | apply kS | apply kN | apply kD | apply kA) | exact HK.out))) : w.heap.size ≤ gb360)); have GE360 := Aside0.mk ((Nat.le_trans HW0.out (by rw [hg]; exact (keep_size (w := w) (g := g) (row := none) (by repeat (first | (with_reducible first | exact HK.out | apply kS | apply kN | apply kD | apply kA) | exact HK.out))) : w.heap.size ≤ gb360) : w0.heap.size ≤ gb360)); replace HK := Aside0.mk (KeepBut.trans (by repeat (first | (with_reducible first | exact HK.out | apply kS | apply kN | apply kD | apply kA) | exact HK.out)) (KeepBut.of_below hb g none) (.inl rfl)); have NB0_360 := Aside0.mk ((by rw [hg]; exact Nat.ne_of_lt (IsS76.lt (show IsS76 w0 _ g s0_0 s0_1 s0_2 from by repeat (first | (with_reducible first | exact HI0.out | apply i76A | apply i76N | apply i76D | apply IsS76.set_1 | apply IsS76.set_2) | exact HI0.out))) : g ≠ gb360)); have NB360_0 := Aside0.mk ((by rw [hg]; exact Nat.ne_of_gt (IsS76.lt (show IsS76 w0 _ g s0_0 s0_1 s0_2 from by repeat (first | (with_reducible first | exact HI0.out | apply i76A | apply i76N | apply i76D | apply IsS76.set_1 | apply IsS76.set_2) | exact HI0.out))) : gb360 ≠ g)); replace HI0 := Aside0.mk (IsS76.below (by repeat (first | (with_reducible first | exact HI0.out | apply i76A | apply i76N | apply i76D | apply IsS76.set_1 | apply IsS76.set_2) | exact HI0.out)) hb); clear hb hbox hg) | ((with_reducible refine gate_callee (f := 62) rfl ?_); refine goesL_ (some 5) rfl rfl Try.func62 (by kernel_rfl) rfl #[.pointer (some ⟨g, 0, none⟩)] rfl (by (try simp only [sD, sE, sF]); first | done | rfl) ?_; (with_reducible refine (spec_l5Draw.calls g s0_0 s0_1 s0_2 t361 t362 t363 t364 w0 _ ?side1 ?side2 A2.out).mono ?_); (case side1 => repeat (first | (with_reducible first | exact HI0.out | apply i76A | apply i76N | apply i76D | apply IsS76.set_1 | apply IsS76.set_2 | refine IsS76.far ?_ NB0_360.out _) | exact HI0.out)); (case side2 => repeat (first | (with_reducible first | exact HB.out | apply bA | apply bN | apply bD | refine bS ?_ (IsS76.ge HI0.out) | refine bS ?_ GE360.out) | exact HB.out)); rintro e w34 ⟨rfl, hi, hb, hk⟩; refine ⟨_, rfl, ?_⟩; replace BK360 := Aside0.mk (KeepBut.blk hk (g' := gb360) (o := .cells #[.int .i64 0, .int .i64 0] 41 (0, 0)) (by (with_reducible repeat (first | refine dN ?_ _ | refine dW ?_ | refine dA ?_ _)); exact BK360.out) NB360_0.out (by simp)); replace HK := Aside0.mk (KeepBut.trans (by repeat (first | (with_reducible first | exact HK.out | apply kS | apply kN | apply kD | apply kA | refine kF ?_ GW360.out _) | exact HK.out)) hk (.inl rfl)); replace HB := Aside0.mk (hb); replace HI0 := Aside0.mk (hi); (try clear hb); (try clear hb2); (try clear hk); (try clear hi)) | ((with_reducible refine gate_dst (N := 3) rfl ?_); refine box_event ?hg (N := 3) ?hd (cs := #[.int .i64 0, .int .i64 0]) (t := 41) ?hr ?_; (case hd => rfl); (case hg => rfl); (case hr => first | (go_simp; done) | (go_simp; rfl)); intro gb365 hg w35 hbox hb; replace HB := Aside0.mk (below_step (by repeat (first | (with_reducible first | exact HB.out | apply bA | apply bN | apply bD | refine bS ?_ (IsS76.ge HI0.out) | refine bS ?_ GE360.out) | exact HB.out)) hb); have BK365 := Aside0.mk (hbox); have GW365 := Aside0.mk ((by rw [hg]; exact (keep_size (w := w) (g := g) (row := none) (by repeat (first | (with_reducible first | exact HK.out | apply kS | apply kN | apply kD | apply kA | refine kF ?_ GW360.out _) | exact HK.out))) : w.heap.size ≤ gb365)); have GE365 := Aside0.mk ((Nat.le_trans HW0.out (by rw [hg]; exact (keep_size (w := w) (g := g) (row := none) (by repeat (first | (with_reducible first | exact HK.out | apply kS | apply kN | apply kD | apply kA | refine kF ?_ GW360.out _) | exact HK.out))) : w.heap.size ≤ gb365) : w0.heap.size ≤ gb365)); replace HK := Aside0.mk (KeepBut.trans (by repeat (first | (with_reducible first | exact HK.out | apply kS | apply kN | apply kD | apply kA | refine kF ?_ GW360.out _) | exact HK.out)) (KeepBut.of_below hb g none) (.inl rfl)); have NB360_365 := Aside0.mk ((by rw [hg]; exact Nat.ne_of_lt (blk_lt (g := gb360) (o := .cells #[.int .i64 0, .int .i64 0] 41 (0, 0)) (by (with_reducible repeat (first | refine dN ?_ _ | refine dW ?_ | refine dA ?_ _)); exact BK360.out)) : gb360 ≠ gb365)); have NB365_360 := Aside0.mk ((by rw [hg]; exact Nat.ne_of_gt (blk_lt (g := gb360) (o := .cells #[.int .i64 0, .int .i64 0] 41 (0, 0)) (by (with_reducible repeat (first | refine dN ?_ _ | refine dW ?_ | refine dA ?_ _)); exact BK360.out)) : gb365 ≠ gb360)); replace BK360 := qcb hb BK360; have NB0_365 := Aside0.mk ((by rw [hg]; exact Nat.ne_of_lt (IsS76.lt (show IsS76 w0 _ g s0_0 t363 t364 from by repeat (first | (with_reducible first | exact HI0.out | apply i76A | apply i76N | apply i76D | apply IsS76.set_1 | apply IsS76.set_2 | refine IsS76.far ?_ NB0_360.out _) | exact HI0.out))) : g ≠ gb365)); have NB365_0 := Aside0.mk ((by rw [hg]; exact Nat.ne_of_gt (IsS76.lt (show IsS76 w0 _ g s0_0 t363 t364 from by repeat (first | (with_reducible first | exact HI0.out | apply i76A | apply i76N | apply i76D | apply IsS76.set_1 | apply IsS76.set_2 | refine IsS76.far ?_ NB0_360.out _) | exact HI0.out))) : gb365 ≠ g)); replace HI0 := Aside0.mk (IsS76.below (by repeat (first | (with_reducible first | exact HI0.out | apply i76A | apply i76N | apply i76D | apply IsS76.set_1 | apply IsS76.set_2 | refine IsS76.far ?_ NB0_360.out _) | exact HI0.out)) hb); clear hb hbox hg; have hnb36 := NB365_360.out; have hnc36 := NB360_365.out; have hnb37 := NB365_0.out; have hnc37 := NB0_365.out; have hcz38_0 : w35.cell? ⟨gb365, 0, none⟩ = some (.int .i64 0) := (blk_cell BK365.out 0).trans rfl; have hcz38_1 : w35.cell? ⟨gb365, 1, none⟩ = some (.int .i64 0) := (blk_cell BK365.out 1).trans rfl; have hfz38_0 := blk_frozen BK365.out 0; have hfz38_1 := blk_frozen BK365.out 1) | ((with_reducible refine gate_callee (f := 40) rfl ?_); refine goesL_ (some 7) rfl rfl Try.func40 (by kernel_rfl) rfl #[.pointer (some ⟨g, 0, none⟩), .int .i64 10] rfl (by (try simp only [sD, sE, sF]); first | done | rfl) ?_; (with_reducible refine (spec_l1Below.calls g s0_0 t363 t364 10 t366 t367 t368 w0 _ ?side1 ?side2 A3.out).mono ?_); (case side1 => repeat (first | (with_reducible first | exact HI0.out | apply i76A | apply i76N | apply i76D | apply IsS76.set_1 | apply IsS76.set_2 | refine IsS76.far ?_ NB0_360.out _ | refine IsS76.far ?_ NB0_365.out _) | exact HI0.out)); (case side2 => repeat (first | (with_reducible first | exact HB.out | apply bA | apply bN | apply bD | refine bS ?_ (IsS76.ge HI0.out) | refine bS ?_ GE360.out | refine bS ?_ GE365.out) | exact HB.out)); rintro e w39 ⟨rfl, hi, hb, hk⟩; refine ⟨_, rfl, ?_⟩; replace BK360 := Aside0.mk (KeepBut.blk hk (g' := gb360) (o := .cells #[.int .i64 0, .int .i64 0] 41 (0, 0)) (by (with_reducible repeat (first | refine dN ?_ _ | refine dW ?_ | refine dA ?_ _)); refine blk_far ?_ NB360_365.out _; (with_reducible repeat (first | refine dN ?_ _ | refine dW ?_ | refine dA ?_ _)); refine blk_far ?_ NB360_365.out _; (with_reducible repeat (first | refine dN ?_ _ | refine dW ?_ | refine dA ?_ _)); exact BK360.out) NB360_0.out (by simp)); replace BK365 := Aside0.mk (KeepBut.blk hk (g' := gb365) (o := .cells #[.int .i64 t361, .int .i64 t362] 41 (0, 0)) (by (with_reducible repeat (first | refine dN ?_ _ | refine dW ?_ | refine dA ?_ _)); refine blk_put (cs := #[.int .i64 t361, .int .i64 0]) ?_ 1 _ rfl; (with_reducible repeat (first | refine dN ?_ _ | refine dW ?_ | refine dA ?_ _)); refine blk_put (cs := #[.int .i64 0, .int .i64 0]) ?_ 0 _ rfl; (with_reducible repeat (first | refine dN ?_ _ | refine dW ?_ | refine dA ?_ _)); exact BK365.out) NB365_0.out (by simp)); replace HK := Aside0.mk (KeepBut.trans (by repeat (first | (with_reducible first | exact HK.out | apply kS | apply kN | apply kD | apply kA | refine kF ?_ GW360.out _ | refine kF ?_ GW365.out _) | exact HK.out)) hk (.inl rfl)); replace HB := Aside0.mk (hb); replace HI0 := Aside0.mk (hi); (try clear hb); (try clear hb2); (try clear hk); (try clear hi); have hcz40_0 : w39.cell? ⟨gb365, 0, none⟩ = some (.int .i64 t361) := (blk_cell BK365.out 0).trans rfl; have hcz40_1 : w39.cell? ⟨gb365, 1, none⟩ = some (.int .i64 t362) := (blk_cell BK365.out 1).trans rfl; have hfz40_0 := blk_frozen BK365.out 0; have hfz40_1 := blk_frozen BK365.out 1; have hnb41 := NB360_0.out; have hnc41 := NB0_360.out; have hcz42_0 : w39.cell? ⟨gb360, 0, none⟩ = some (.int .i64 0) := (blk_cell BK360.out 0).trans rfl; have hcz42_1 : w39.cell? ⟨gb360, 1, none⟩ = some (.int .i64 0) := (blk_cell BK360.out 1).trans rfl; have hfz42_0 := blk_frozen BK360.out 0; have hfz42_1 := blk_frozen BK360.out 1))
   refine bodyPost_ret (results_cell_row rfl _ _ gb360 41 #[.int .i64 t361, .int .i64 t362] (0, 0) _ rfl (by (with_reducible repeat (first | refine dN ?_ _ | refine dW ?_ | refine dA ?_ _)); refine blk_put (cs := #[.int .i64 t361, .int .i64 0]) ?_ 1 _ rfl; (with_reducible repeat (first | refine dN ?_ _ | refine dW ?_ | refine dA ?_ _)); refine blk_put (cs := #[.int .i64 0, .int .i64 0]) ?_ 0 _ rfl; (with_reducible repeat (first | refine dN ?_ _ | refine dW ?_ | refine dA ?_ _)); exact BK360.out) Try.underlying41 rfl (by kernel_rfl)) rfl ?_
   exact ⟨by first | rfl | (simp [errW_none, errW_some] <;> rfl) | (simp [*, errW_none, errW_some] <;> rfl), by repeat (first | (with_reducible first | exact HI0.out | apply i76A | apply i76N | apply i76D | apply IsS76.set_1 | apply IsS76.set_2 | refine IsS76.far ?_ NB0_360.out _ | refine IsS76.far ?_ NB0_365.out _) | exact HI0.out), by repeat (first | (with_reducible first | exact HB.out | apply bA | apply bN | apply bD | refine bS ?_ (IsS76.ge HI0.out) | refine bS ?_ GE360.out | refine bS ?_ GE365.out) | exact HB.out), by repeat (first | (with_reducible first | exact HK.out | apply kS | apply kN | apply kD | apply kA | refine kF ?_ GW360.out _ | refine kF ?_ GW365.out _) | exact HK.out)⟩

/-! ### spec_DrawFoundIn: function 20 -/
def spec_DrawFoundIn.f (k : Nat) (l0 : List Int) : Option ((List (S31)) × Int × Int) := (spec_l1New.f k l0).bind fun bt379 => ((spec_l6Any.f k bt379.1 bt379.2.1 bt379.2.2).bind fun bt383 => ((spec_l5Any.f bt379.1 bt383.2.1 bt383.2.2).bind fun bt388 => (some (bt383.1, bt388.1, bt388.2.1))))
theorem spec_DrawFoundIn.mono : ∀ a0 k, LeO (spec_DrawFoundIn.f k a0) (spec_DrawFoundIn.f (k + 1) a0) := by
 intro a0 k
 unfold spec_DrawFoundIn.f
 repeat' first
   | (with_reducible exact spec_l1New.mono _ _)
   | (with_reducible exact spec_l6Any.mono _ _ _ _)
   | (with_reducible exact LeO.refl _)
   | (with_reducible exact LeO.none _)
   | (with_reducible refine LeO.ite ?_ ?_)
   | (with_reducible refine LeO.bind ?_ (fun _ => ?_))
   | exact spec_l1New.mono _ _
   | exact spec_l6Any.mono _ _ _ _
   | exact LeO.none _
   | refine LeO.ite ?_ ?_
   | refine LeO.bind ?_ (fun _ => ?_)
set_option maxHeartbeats 8000000 in
set_option maxRecDepth 100000 in
theorem spec_DrawFoundIn.calls (k : Nat) (A0 : Option Addr) (c0 : Nat) (l0 : List Int) (r1 : List (S31)) (r2 : Int) (r3 : Int) (w : World) (hr0 : Kd.C (Kd.int .u8) w A0 l0.length l0) (hc0 : l0.length ≤ c0) (h : spec_DrawFoundIn.f k l0 = some (r1, r2, r3)) :
  Calls Try.prog 20 #[.slice A0 l0.length c0] w fun e w' => ∃ v0_ : Value, e = .returned (.tuple #[v0_, .agg #[.int .i64 r2, .int .i64 r3]]) ∧ Kd.R k31 31 w' w.heap.size (fun _ => True) v0_ r1 ∧ Below w.heap.size w w' := by
 have hu41 := Try.underlying41
 have HR0 := Aside0.mk hr0
 have HC0 := Aside0.mk hc0
 clear hr0 hc0
 have HB := Aside0.mk (Below.refl w.heap.size w)
 have H : ((spec_l1New.f k l0).bind fun bt379 => ((spec_l6Any.f k bt379.1 bt379.2.1 bt379.2.2).bind fun bt383 => ((spec_l5Any.f bt379.1 bt383.2.1 bt383.2.2).bind fun bt388 => (some (bt383.1, bt388.1, bt388.2.1))))) = some (r1, r2, r3) := h
 clear h
 replace H := obm H
 obtain ⟨⟨t379, t380, t381⟩, A20, H⟩ := H
 replace H : ((spec_l6Any.f k t379 t380 t381).bind fun bt383 => ((spec_l5Any.f t379 bt383.2.1 bt383.2.2).bind fun bt388 => (some (bt383.1, bt388.1, bt388.2.1)))) = some (r1, r2, r3) := H
 have A2 := Aside0.mk A20
 clear A20
 replace H := obm H
 obtain ⟨⟨t383, t386, t387⟩, A30, H⟩ := H
 replace H : ((spec_l5Any.f t379 t386 t387).bind fun bt388 => (some (t383, bt388.1, bt388.2.1))) = some (r1, r2, r3) := H
 have A3 := Aside0.mk A30
 clear A30
 replace H := obm H
 obtain ⟨⟨t388, t389, t390, t391⟩, A40, H⟩ := H
 replace H : (some (t383, t388, t389)) = some (r1, r2, r3) := H
 have A4 := Aside0.mk A40
 clear A40
 simp only [Option.some.injEq, Prod.mk.injEq] at H
 obtain ⟨rfl, rfl, rfl⟩ := H
 go_enter Try.func20, Try.ntmps20
 go_wp2_with (first | ((with_reducible refine gate_dst (N := 3) rfl ?_); refine box_event ?hg (N := 3) ?hd (cs := #[.int .i64 0, .int .i64 0]) (t := 41) ?hr ?_; (case hd => rfl); (case hg => rfl); (case hr => first | (go_simp; done) | (go_simp; rfl)); intro gb378 hg w5 hbox hb; have BK378 := Aside0.mk (hbox); have GW378 := Aside0.mk ((by rw [hg]; exact (below_size (by repeat (first | (with_reducible first | exact HB.out | apply bA | apply bN | apply bD) | exact HB.out))) : w.heap.size ≤ gb378)); have GE378 := Aside0.mk ((by rw [hg]; exact (below_size (by repeat (first | (with_reducible first | exact HB.out | apply bA | apply bN | apply bD) | exact HB.out))) : w.heap.size ≤ gb378)); replace HB := Aside0.mk (below_step (by repeat (first | (with_reducible first | exact HB.out | apply bA | apply bN | apply bD) | exact HB.out)) hb); clear hb hbox hg) | ((with_reducible refine gate_callee (f := 36) rfl ?_); refine goesL_ (some 7) rfl rfl Try.func36 (by kernel_rfl) rfl #[.slice A0 l0.length c0] rfl (by (try simp only [sD, sE, sF]); first | done | rfl) ?_; (with_reducible refine (spec_l1New.calls k _ _ l0 t379 t380 t381 w _ ?side1 ?side2 ?side3 A2.out).mono ?_); (case side1 => repeat (first | (with_reducible first | exact HB.out | apply bA | apply bN | apply bD | refine bS ?_ GE378.out) | exact HB.out)); (case side2 => exact HR0.out); (case side3 => exact HC0.out); rintro e w6 ⟨g382, rfl, hi, hb, hb2⟩; refine ⟨_, rfl, ?_⟩; replace HB := Aside0.mk (hb); have HI382 := Aside0.mk (hi); have NB382_378 := Aside0.mk (IsS76.ne_blk hi (blk_below (g := gb378) (o := .cells #[.int .i64 0, .int .i64 0] 41 (0, 0)) (by (with_reducible repeat (first | refine dN ?_ _ | refine dW ?_ | refine dA ?_ _)); exact BK378.out) hb2) (by decide)); have NB378_382 := Aside0.mk (Ne.symm (IsS76.ne_blk hi (blk_below (g := gb378) (o := .cells #[.int .i64 0, .int .i64 0] 41 (0, 0)) (by (with_reducible repeat (first | refine dN ?_ _ | refine dW ?_ | refine dA ?_ _)); exact BK378.out) hb2) (by decide))); replace BK378 := qcb hb2 BK378; (try clear hb); (try clear hb2); (try clear hk); (try clear hi)) | ((with_reducible refine gate_callee (f := 37) rfl ?_); refine goesL_ (some 9) rfl rfl Try.func37 (by kernel_rfl) rfl #[.pointer (some ⟨g382, 0, none⟩)] rfl (by (try simp only [sD, sE, sF]); first | done | rfl) ?_; (with_reducible refine (spec_l6Any.calls k g382 t379 t380 t381 t383 t386 t387 w _ ?side1 ?side2 A3.out).mono ?_); (case side1 => repeat (first | (with_reducible first | exact HI382.out | apply i76A | apply i76N | apply i76D | apply IsS76.set_1 | apply IsS76.set_2 | refine IsS76.far ?_ NB382_378.out _) | exact HI382.out)); (case side2 => repeat (first | (with_reducible first | exact HB.out | apply bA | apply bN | apply bD | refine bS ?_ (IsS76.ge HI382.out) | refine bS ?_ GE378.out) | exact HB.out)); rintro e w7 ⟨v384, rfl, ho0, hi, hb, hk⟩; refine ⟨_, rfl, ?_⟩; replace BK378 := Aside0.mk (KeepBut.blk hk (g' := gb378) (o := .cells #[.int .i64 0, .int .i64 0] 41 (0, 0)) (by (with_reducible repeat (first | refine dN ?_ _ | refine dW ?_ | refine dA ?_ _)); exact BK378.out) NB378_382.out (by simp)); have HO385 := Aside0.mk (Kd.R_lower ho0 (below_size (by repeat (first | (with_reducible first | exact HB.out | apply bA | apply bN | apply bD | refine bS ?_ (IsS76.ge HI382.out) | refine bS ?_ GE378.out) | exact HB.out)))); replace HB := Aside0.mk (hb); replace HI382 := Aside0.mk (hi); (try clear hb); (try clear hb2); (try clear hk); (try clear hi); (try clear ho0)) | ((with_reducible refine gate_callee (f := 46) rfl ?_); refine goesL_ (some 12) rfl rfl Try.func46 (by kernel_rfl) rfl #[.pointer (some ⟨g382, 0, none⟩)] rfl (by (try simp only [sD, sE, sF]); first | done | rfl) ?_; (with_reducible refine (spec_l5Any.calls g382 t379 t386 t387 t388 t389 t390 t391 w _ ?side1 ?side2 A4.out).mono ?_); (case side1 => repeat (first | (with_reducible first | exact HI382.out | apply i76A | apply i76N | apply i76D | apply IsS76.set_1 | apply IsS76.set_2 | refine IsS76.far ?_ NB382_378.out _) | exact HI382.out)); (case side2 => repeat (first | (with_reducible first | exact HB.out | apply bA | apply bN | apply bD | refine bS ?_ (IsS76.ge HI382.out) | refine bS ?_ GE378.out) | exact HB.out)); rintro e w8 ⟨rfl, hi, hb, hk⟩; refine ⟨_, rfl, ?_⟩; replace BK378 := Aside0.mk (KeepBut.blk hk (g' := gb378) (o := .cells #[.int .i64 0, .int .i64 0] 41 (0, 0)) (by (with_reducible repeat (first | refine dN ?_ _ | refine dW ?_ | refine dA ?_ _)); exact BK378.out) NB378_382.out (by simp)); replace HO385 := Aside0.mk (Kd.R_mono (Kd.R_keep (IsS76.apart (show IsS76 w _ g382 t379 t386 t387 from by repeat (first | (with_reducible first | exact HI382.out | apply i76A | apply i76N | apply i76D | apply IsS76.set_1 | apply IsS76.set_2 | refine IsS76.far ?_ NB382_378.out _) | exact HI382.out)) (by (with_reducible repeat (first | apply rA | apply rN | apply rD)); exact HO385.out) (by decide)) hk (fun _ h => h.2)) (fun _ h => h.1)); replace HB := Aside0.mk (hb); replace HI382 := Aside0.mk (hi); (try clear hb); (try clear hb2); (try clear hk); (try clear hi); have hnb9 := NB378_382.out; have hnc9 := NB382_378.out; have hcz10_0 : w8.cell? ⟨gb378, 0, none⟩ = some (.int .i64 0) := (blk_cell BK378.out 0).trans rfl; have hcz10_1 : w8.cell? ⟨gb378, 1, none⟩ = some (.int .i64 0) := (blk_cell BK378.out 1).trans rfl; have hfz10_0 := blk_frozen BK378.out 0; have hfz10_1 := blk_frozen BK378.out 1))
 refine bodyPost_ret (results_tc rfl _ _ gb378 41 #[.int .i64 t388, .int .i64 t389] (0, 0) _ rfl (by (with_reducible repeat (first | refine dN ?_ _ | refine dW ?_ | refine dA ?_ _)); refine blk_put (cs := #[.int .i64 t388, .int .i64 0]) ?_ 1 _ rfl; (with_reducible repeat (first | refine dN ?_ _ | refine dW ?_ | refine dA ?_ _)); refine blk_put (cs := #[.int .i64 0, .int .i64 0]) ?_ 0 _ rfl; (with_reducible repeat (first | refine dN ?_ _ | refine dW ?_ | refine dA ?_ _)); exact BK378.out) Try.underlying41 rfl (by kernel_rfl)) rfl ?_
 exact ⟨_, by first | rfl | (simp [errW_none, errW_some] <;> rfl) | (simp [*, errW_none, errW_some] <;> rfl), by (with_reducible repeat (first | apply rA | apply rN | apply rD)); exact Kd.R_mono (Kd.R_far (p := ⟨gb378, 1, none⟩) (Kd.R_far (p := ⟨gb378, 0, none⟩) (Kd.R_types HO385.out BK378.out (by decide)) (fun _ hk => hk.2) (.int .i64 t388)) (fun _ hk => hk.2) (.int .i64 t389)) (fun _ hk => trivial), by repeat (first | (with_reducible first | exact HB.out | apply bA | apply bN | apply bD | refine bS ?_ (IsS76.ge HI382.out) | refine bS ?_ GE378.out) | exact HB.out)⟩

end Go.Proofs.Ytkgdofogalfhjac.PFnFinds
