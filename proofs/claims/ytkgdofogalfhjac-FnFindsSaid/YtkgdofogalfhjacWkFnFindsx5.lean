/- Contracts of functions that the law FnFinds reaches: called with any arguments they return what the plain functions here say, and nothing that lay in memory before is changed; no other conditions. -/
import Derived.Shelf.Abstract
import Derived.Laws.CopyRow
import Derived.Lib.Overlaps
import Derived.Lib.AppendZerosOnto
import Derived.Deep.RegionLaw
import Derived.Laws.Externs
import Derived.Laws.NewBlocks
import Derived.Test.YtkgdofogalfhjacWkFnFindsx0
namespace Go.Proofs.Ytkgdofogalfhjac.PFnFinds
open Go.RowKit Go.Proofs.YtkgdofogalfhjacW.PrintWords Go.Proofs.YtkgdofogalfhjacW.PrintLast Go.Proofs.YtkgdofogalfhjacW.PrintMore
attribute [local go_sem] max2_int min2_int max_two min_two max_three min_three max_four min_four   -- for this text's walks alone
set_option linter.unusedVariables false
set_option linter.unusedSimpArgs false

-- NOT PRINTED: function 44 (impl_Find_44)

/-! ### impl_FindThing: function 17 -/
def impl_FindThing.l0 : Nat → List (S31) → Int → Int → Option (Int)
 | 0, _, _, _ => none
 | k + 1, x0, x1, x5 => if x5 < (x0.length : Int) then (if 0 ≤ x5 then (if ((rd_T31 x0 x5).f0.f0) = x1 then (some x5) else (impl_FindThing.l0 k x0 x1 (wrap64 (x5 + 1)))) else (none)) else (some (-1))
def impl_FindThing.f (k : Nat) (l0 : List (S31)) (a1 : Int) : Option (Int) := impl_FindThing.l0 k l0 a1 0
theorem impl_FindThing.mono_l : ∀ k, (∀ y0 y1 y2, LeO (impl_FindThing.l0 k y0 y1 y2) (impl_FindThing.l0 (k + 1) y0 y1 y2))
 | 0 => fun _ _ _ r h => by simp [impl_FindThing.l0] at h
 | k + 1 => by
  have ih0 := impl_FindThing.mono_l k
  ·intro y0 y1 y2
   unfold impl_FindThing.l0
   repeat' first
   | (with_reducible exact ih0 _ _ _)
   | (with_reducible exact LeO.refl _)
   | (with_reducible exact LeO.none _)
   | (with_reducible refine LeO.ite ?_ ?_)
   | (with_reducible refine LeO.bind ?_ (fun _ => ?_))
   | exact ih0 _ _ _
   | exact LeO.none _
   | refine LeO.ite ?_ ?_
   | refine LeO.bind ?_ (fun _ => ?_)
theorem impl_FindThing.mono : ∀ a0 a1 k, LeO (impl_FindThing.f k a0 a1) (impl_FindThing.f (k + 1) a0 a1) := by
 intro a0 a1 k
 have ih0 := impl_FindThing.mono_l k
 unfold impl_FindThing.f
 repeat' first
   | (with_reducible exact ih0 _ _ _)
   | (with_reducible exact LeO.refl _)
   | (with_reducible exact LeO.none _)
   | (with_reducible refine LeO.ite ?_ ?_)
   | (with_reducible refine LeO.bind ?_ (fun _ => ?_))
   | exact ih0 _ _ _
   | exact LeO.none _
   | refine LeO.ite ?_ ?_
   | refine LeO.bind ?_ (fun _ => ?_)
set_option maxRecDepth 100000 in
theorem closure_calls (x : S31) (id : Int) (B : Nat) (W : World) (hB : B < W.heap.size) (hcell : W.cell? ⟨B, 0, none⟩ = some (.int .i64 id)) :
  Calls Try.prog 45 #[.agg #[.int .i64 x.f0.f0, .int .i64 x.f0.f1, .int .i64 x.f0.f2, .int .i64 x.f0.f3, .int .i64 x.f0.f4, .int .i64 x.f1, .int .i64 x.f2, .int .i64 x.f3], .pointer (some ⟨B, 0, none⟩)] W fun e w' => e = .returned (.bool (x.f0.f0 == id)) ∧ Below W.heap.size W w' := by
 have hne : B ≠ W.heap.size := by omega
 go_enter Try.func45, Try.ntmps45
 go_wp2
 go_ret
 exact ⟨by first | rfl | simp_all, by repeat (first | (with_reducible first | exact Below.refl _ _ | apply bA | apply bN | apply bD) | exact Below.refl _ _)⟩
set_option maxHeartbeats 8000000 in
set_option maxRecDepth 100000 in
theorem index_calls (k : Nat) (A0 : Option Addr) (c0 : Nat) (l0 : List S31) (a1 r : Int) (B : Nat) (w : World) (hB : B < w.heap.size) (hcell : w.cell? ⟨B, 0, none⟩ = some (.int .i64 a1)) (hr0 : Kd.C k31 w A0 l0.length l0) (hc0 : l0.length ≤ c0) (h : impl_FindThing.f k l0 a1 = some r) :
  Calls Try.prog 44 #[.slice A0 l0.length c0, .func (.func 45) #[] #[.pointer (some ⟨B, 0, none⟩)]] w fun e w' => e = .returned (.int .i64 r) ∧ Below w.heap.size w w' := by
 have HR0 := Aside0.mk hr0
 have C46 := Aside0.mk (fun (W : World) (hb : Below w.heap.size w W) (x : S31) => closure_calls x a1 B W (Nat.lt_of_lt_of_le hB hb.size) ((hb.cell (p := ⟨B, 0, none⟩) hB).trans hcell))
 have eg : ∀ args w, (callFunc 45 args).run Try.prog w = .ok (.enter 45 args) w := enters_of Try.func45 (by kernel_rfl) rfl
 clear hr0 hc0 hB hcell
 have H' : Aside0 (impl_FindThing.l0 k l0 a1 0 = some r) := Aside0.mk h
 clear h
 go_enter Try.func44, Try.ntmps44
 go_wp2
 go_loopg [5, 8] k (fun kq _ v8 w' => ∃ (i : Int), v8 = .int .i64 i ∧ Aside0 (impl_FindThing.l0 kq l0 a1 i = some r) ∧ Aside0 (kq ≤ k) ∧ Aside0 (Below w.heap.size w w'))
 case atStart => exact ⟨0, rfl, H', ⟨Nat.le_refl _⟩, ⟨Below.refl _ _⟩⟩
 case round =>
  clear H'
  obtain ⟨i, rfl, HA, HK1, HB⟩ := hrel
  cases gk with
  | zero => exact absurd HA.out (by simp [impl_FindThing.l0])
  | succ k1 =>
   have H := HA.out
   clear HA
   simp only [impl_FindThing.l0] at H
   by_cases c3 : i < (l0.length : Int)
   ·rw [if_pos c3] at H
    by_cases c4 : 0 ≤ i
    ·rw [if_pos c4] at H
     obtain ⟨ad, ead, hx0, hx1, hx2, hx3, hx4, hx5, hx6, hx7⟩ := at_T31 HR0.out i c4 c3
     replace hx0 := (HB.out.cell (World.block_lt_of_cell? w _ hx0)).trans hx0
     replace hx1 := (HB.out.cell (World.block_lt_of_cell? w _ hx1)).trans hx1
     replace hx2 := (HB.out.cell (World.block_lt_of_cell? w _ hx2)).trans hx2
     replace hx3 := (HB.out.cell (World.block_lt_of_cell? w _ hx3)).trans hx3
     replace hx4 := (HB.out.cell (World.block_lt_of_cell? w _ hx4)).trans hx4
     replace hx5 := (HB.out.cell (World.block_lt_of_cell? w _ hx5)).trans hx5
     replace hx6 := (HB.out.cell (World.block_lt_of_cell? w _ hx6)).trans hx6
     replace hx7 := (HB.out.cell (World.block_lt_of_cell? w _ hx7)).trans hx7
     have CC := Aside0.mk (C46.out _ HB.out (rd_T31 l0 i))
     have c3b0 : decide (i < (l0.length : Int)) = true := decide_eq_true c3
     have c4b0 : decide (0 ≤ i) = true := decide_eq_true c4
     cases ead
     replace c3 := eq_true c3
     replace c4 := eq_true c4
     by_cases c5 : (rd_T31 l0 i).f0.f0 = a1
     ·rw [if_pos c5] at H
      have c5b0 : ((rd_T31 l0 i).f0.f0 == a1) = true := beq_iff_eq.mpr c5
      clear c5
      rw [c5b0] at CC
      obtain rfl := Option.some.inj H
      go_wp2_with (go_at_fn 45; refine CC.out.mono ?_; rintro e w2 ⟨rfl, hb2⟩; have B2 := Aside0.mk (below_step HB.out hb2); clear hb2)
      go_ret
      exact ⟨rfl, B2.out⟩
     ·rw [if_neg c5] at H
      have c5b0 : ((rd_T31 l0 i).f0.f0 == a1) = false := beq_eq_false_iff_ne.mpr c5
      clear c5
      rw [c5b0] at CC
      have H' := Aside0.mk H
      clear H
      go_wp2_with (go_at_fn 45; refine CC.out.mono ?_; rintro e w2 ⟨rfl, hb2⟩; have B2 := Aside0.mk (below_step HB.out hb2); clear hb2)
      go_roundg k1
      case measure => have := HK1.out; omega
      case rel => exact ⟨(wrap64 (i + 1)), (by first | rfl | (simp; done) | (simp [*]; done)), H', ⟨by have := HK1.out; omega⟩, ⟨B2.out⟩⟩
    ·rw [if_neg c4] at H
     exact absurd H (by simp)
   ·rw [if_neg c3] at H
    have c3b0 : decide (i < (l0.length : Int)) = false := decide_eq_false c3
    clear c3
    obtain rfl := Option.some.inj H
    go_wp2
    go_ret
    exact ⟨rfl, HB.out⟩
set_option maxRecDepth 100000 in
theorem impl_FindThing.calls (k : Nat) (A0 : Option Addr) (c0 : Nat) (l0 : List S31) (a1 r : Int) (w : World) (hr0 : Kd.C k31 w A0 l0.length l0) (hc0 : l0.length ≤ c0) (h : impl_FindThing.f k l0 a1 = some r) :
  Calls Try.prog 17 #[.slice A0 l0.length c0, .int .i64 a1] w fun e w' => e = .returned (.int .i64 r) ∧ Below w.heap.size w w' := by
 have B := Aside0.mk (index_calls k A0 c0 l0 a1 r w.heap.size (w.alloc (.cells #[.int .i64 a1] 3)) (by simp) (by simp) (Kd.C_alloc hr0 _) hc0 h)
 clear hr0 hc0 h
 go_enter Try.func17, Try.ntmps17
 go_wp2_with (go_at_call 44; refine B.out.mono ?_; rintro e w2 ⟨rfl, hb2⟩; have B2 := Aside0.mk (below_step (below_alloc (Below.refl _ _) _) hb2); clear hb2)
 go_ret
 exact ⟨rfl, B2.out⟩

/-! ### impl_Find_41: function 41 -/
def impl_Find_41.f (l0 : List (S31)) : Option ((List (S31))) := (some (([] : List (S31)) : List (S31))).bind fun y311 => (if y311.length + l0.length < 2199023255552 then (some (y311 ++ l0)) else (none))
theorem eq_nilS (A : Option Addr) (n c : Nat) (w : World) : (binOp BinOp.eql 27 (.slice A n c) (.slice none 0 0)).run Try.prog w = .ok (.bool A.isNone) w := by
 have hu := run_underlying Try.underlying27
 have h : ∀ d, (Op.equalIn (d + 1) 27 (.slice A n c) (.slice none 0 0)).run Try.prog w = .ok A.isNone w := fun d => by
  cases A <;> simp [Op.equalIn, hu]
 have h2 : (Op.equal 27 (.slice A n c) (.slice none 0 0)).run Try.prog w = .ok A.isNone w := h 9999
 have hb : binOp BinOp.eql 27 (.slice A n c) (.slice none 0 0) = (do pure (Value.bool (← Op.equal 27 (.slice A n c) (.slice none 0 0)))) := rfl
 rw [hb]
 simp [h2]
attribute [local go_sem] eq_nilS
set_option maxHeartbeats 8000000 in
set_option maxRecDepth 100000 in
theorem impl_Find_41.calls (A0 : Option Addr) (c0 : Nat) (l0 : List (S31)) (r : List (S31)) (w : World) (hr0 : Kd.C k31 w A0 l0.length l0) (hc0 : l0.length ≤ c0) (h : impl_Find_41.f l0 = some r) :
  Calls Try.prog 41 #[.slice A0 l0.length c0] w fun e w' => ∃ v0_ : Value, e = .returned (v0_) ∧ Kd.R k31 31 w' w.heap.size (fun _ => True) v0_ r ∧ Below w.heap.size w w' := by
 have HR0 := Aside0.mk hr0
 have HC0 := Aside0.mk hc0
 clear hr0 hc0
 have HB := Aside0.mk (Below.refl w.heap.size w)
 have H : ((some (([] : List (S31)) : List (S31))).bind fun y202 => (if y202.length + l0.length < 2199023255552 then (some (y202 ++ l0)) else (none))) = some r := h
 clear h
 obtain ⟨y202, hy202⟩ : ∃ y_ : List (S31), y_ = (([] : List (S31))) := ⟨_, rfl⟩
 replace H : (if y202.length + l0.length < 2199023255552 then (some (y202 ++ l0)) else (none)) = some r := by first | (rw [hy202]; with_reducible exact H) | (have H2_ := (Option.bind_some _ _).symm.trans H; rw [hy202]; with_reducible exact H2_) | (have H2_ := (Option.bind_some _ _).symm.trans H; with_reducible exact H2_) | with_reducible exact H | (rw [hy202]; exact H) | exact H
 have Ny202 := Aside0.mk hy202
 clear hy202
 by_cases c2 : y202.length + l0.length < 2199023255552
 ·rw [if_pos c2] at H
  have LMc2 := Aside0.mk c2
  clear c2
  obtain ⟨y205, hy205⟩ : ∃ y_ : List (S31), y_ = (y202 ++ l0) := ⟨_, rfl⟩
  replace H : (some y205) = some r := by first | (rw [hy205]; with_reducible exact H) | (have H2_ := (Option.bind_some _ _).symm.trans H; rw [hy205]; with_reducible exact H2_) | (have H2_ := (Option.bind_some _ _).symm.trans H; with_reducible exact H2_) | with_reducible exact H | (rw [hy205]; exact H) | exact H
  have Ny205 := Aside0.mk hy205
  clear hy205
  obtain rfl := Option.some.inj H
  go_enter Try.func41, Try.ntmps41
  cases A0 with
  | none =>
   have e0 : l0 = [] := List.eq_nil_of_length_eq_zero (Nat.eq_zero_of_not_pos (fun hp => by obtain ⟨_, h_, _⟩ := HR0.out.2.2 hp; cases h_))
   subst e0
   go_wp2
   go_ret
   exact ⟨_, rfl, by rw [Ny205.out, Ny202.out]; exact Kd.R_nil _ _ _ _ _, by repeat (first | (with_reducible first | exact HB.out | apply bA | apply bN | apply bD) | exact HB.out)⟩
  | some ad =>
  go_wp2_with (first | ((with_reducible refine gate_dst (N := 5) rfl ?_); refine Kd.R_lit k31 _ 31 ?hg (N := 5) ?hd (xs := ([] : List (S31))) (inner := []) (ok := fun _ => True) (okp := fun _ => True) ?hr ?hp (fun _ hk => hk) trivial (Below.refl _ _) (Nat.le_refl _) (by simp) ?_; (case hd => rfl); (case hg => rfl); (case hr => first | (go_simp; done) | (go_simp; rfl)); (case hp => exact (Reps.none _ _)); intro v203 w3 ho4 hb hg_ hnew_; clear hg_ hnew_; (first | rw [← Ny202.out] at ho4 | (simp only [Int.reduceToNat] at ho4; rw [← Ny202.out] at ho4)); have HO204 := Aside0.mk (Kd.R_lower ho4 (below_size (by repeat (first | (with_reducible first | exact HB.out | apply bA | apply bN | apply bD) | exact HB.out)))); replace HB := Aside0.mk (below_step (by repeat (first | (with_reducible first | exact HB.out | apply bA | apply bN | apply bD) | exact HB.out)) hb); clear hb ho4) | ((with_reducible refine gate_builtin (b := .append) (xs := #[.tmp 5, .tmp 6]) rfl ?_); at_builtin; refine Kd.R_append_rows k31 (w0 := w) w.heap.size rfl (.tmp 5) (.tmp 6) 27 31 (.agg #[(.int .i64 0), (.int .i64 0), (.int .i64 0), (.int .i64 0), (.int .i64 0), (.int .i64 0), (.int .i64 0), (.int .i64 0)]) 64 rfl Try.underlying27 info31 rfl (by decide) (by omega) v203 y202 l0 _ _ _ (fun _ => True) (fun _ => False) rfl rfl ?aO ?aR (fun _ _ h => h) (fun _ h => h.elim) ?aF ?aB ?aS ?aL ?_; (case aR => repeat (first | exact (Kd.C_below HR0.out HB.out) | (with_reducible refine cA ?_ _) | (with_reducible refine cN ?_ _) | (with_reducible refine cD ?_))); (case aB => exact (by repeat (first | (with_reducible first | exact HB.out | apply bA | apply bN | apply bD) | exact HB.out))); (case aF => exact (fun _ _ => trivial)); (case aO => exact (by (with_reducible repeat (first | apply rA | apply rN | apply rD)); exact HO204.out)); (case aS => exact (below_size (by repeat (first | (with_reducible first | exact HB.out | apply bA | apply bN | apply bD) | exact HB.out)))); (case aL => have := LMc2.out; omega); intro v206 w5 ho hb hg hat; rw [← Ny205.out] at ho; replace HB := Aside0.mk (hb); have HO207 := Aside0.mk (ho); clear HO204; clear ho hb hg hat))
  go_ret
  exact ⟨_, by first | rfl | (simp [errW_none, errW_some] <;> rfl) | (simp [*, errW_none, errW_some] <;> rfl), by (with_reducible repeat (first | apply rA | apply rN | apply rD)); exact HO207.out, by repeat (first | (with_reducible first | exact HB.out | apply bA | apply bN | apply bD) | exact HB.out)⟩
 ·rw [if_neg c2] at H
  exact absurd H (by simp)

/-! ### impl_Find_42: function 42 -/
theorem copy_rowK {P : Program} (w : World) (dT sT ty elem : TypeId) (sz g o dLen dCap : Nat) (a : Addr) (sLen sCap n : Nat) (cur : Array Value) (t : TypeId) (cs : List Value)
  (hu : P.underlying dT = some (.slice elem)) (hs : (P.info? elem).map (·.size) = some sz) (hg : w.heap[g]? = some (.cells cur t (0, 0))) (hn : Nat.min sLen dLen = n) (hl : cs.length = n * sz)
  (hsrc : ∀ j v, cs[j]? = some v → w.cell? (a.add j) = some v) (hfit : o + cs.length ≤ cur.size) (h1 : ∀ v ∈ cs, v.oneCell' = true) :
  (Builtin.copy_ #[dT, sT] ty #[.slice (some ⟨g, o, none⟩) dLen dCap, .slice (some a) sLen sCap]).run P w = .ok (goInt n) (w.setRow g (cur.toList.take o ++ cs ++ cur.toList.drop (o + cs.length)).toArray) := by
 have hl' := run_loadCells_list (P := P) w a cs hsrc
 have hst := run_storeCells_at P g o t cs 0 cur w hg (by simpa using hfit) h1
 cases hq : P.info? elem with
 | none => simp [hq] at hs
 | some i =>
  have hi : i.size = sz := by simpa [hq] using hs
  simp [Builtin.copy_, run_underlying hu, Builtin.lenOf, Builtin.firstCells, sizeOf, typeInfo, hq, hi, hn, ← hl, hl', hst]
theorem wp_copyK {P : Program} (w : World) {o : Oper} {a : Act} {K : Act → World → Prop} {Q : Exit → Act → World → Prop} (d s : Operand) (t t' : TypeId)
  (ho : o.op = .call { callee := .builtin .copy, args := #[d, s], argTypes := #[t, t'] }) (v u : Value) (hd : a.eval d = v) (hs : a.eval s = u) {v' : Value} {w' : World}
  (hr : (Builtin.copy_ #[t, t'] o.type #[v, u]).run P w = .ok v' w') (h : K (a.put o.dst v') w') : o.wp P a w K Q := by
 unfold Oper.wp execOp
 simp only [ho, resolve, invoke, builtin, Sem.run_bind, Sem.run_pure, Result.andThen_ok, List.map_toArray, List.map_cons, List.map_nil, hd, hs, hr]
 exact h
theorem wpList_copyK {P : Program} (w : World) {ops : Array Oper} {rest : List Oper} {o : Oper} {a : Act} {Q : Exit → Act → World → Prop} (hgd : o.guard = none) (d s : Operand) (t t' : TypeId)
  (ho : o.op = .call { callee := .builtin .copy, args := #[d, s], argTypes := #[t, t'] }) (v u : Value) (hd : a.eval d = v) (hs : a.eval s = u) {v' : Value} {w' : World}
  (hr : (Builtin.copy_ #[t, t'] o.type #[v, u]).run P w = .ok v' w') (h : wpList P ops Q rest (a.put o.dst v') w') : wpList P ops Q (o :: rest) a w :=
 wpList_plain hgd fun _ hK => wp_copyK w d s t t' ho v u hd hs hr (hK _ _ h)
theorem step_copyK {P : Program} {ops : Array Oper} {o : Oper} {a : Act} {w : World} {K : Act → World → Prop} {Q : Exit → Act → World → Prop} {E : Prop}
  (hg : o.guard = none) (d x : Operand) (dT sT : TypeId) (hop : o.op = Op.call { callee := Callee.builtin Builtin.copy, args := #[d, x], argTypes := #[dT, sT] })
  (v u : Value) (hd : a.eval d = v) (hx : a.eval x = u) {v' : Value} {w' : World} (hr : (Builtin.copy_ #[dT, sT] o.type #[v, u]).run P w = .ok v' w') (hK : K (a.put o.dst v') w') :
  if Region.wanted o (yielded ops a.tmps) = true then Oper.wp P o a w K Q else E := by
 have hw : Region.wanted o (yielded ops a.tmps) = true := by simp [Region.wanted, hg]
 rw [if_pos hw]
 unfold Oper.wp
 simp [execOp, hop, resolve, invoke, builtin, hd, hx, hr, Result.andThen]
 exact hK
set_option maxHeartbeats 4000000 in
set_option maxRecDepth 100000 in
theorem ins_end (base n c g2 c2 : Nat) (A : Option Addr) (xs fc : List Value) (w : World) (hown : w.ownsRow base 31 8 (.slice A n c) n xs) (hfl : fc.length = 8) (hfc : ∀ j v, fc[j]? = some v → w.cell? ⟨g2, j, none⟩ = some v) (h1 : ∀ v ∈ fc, v.oneCell' = true) (hn : n ≤ 1048576) (hnc : n ≤ c) (hc63 : c ≤ 9223372036854775807) (hb : base ≤ w.heap.size) :
  Calls Try.prog 42 #[.slice A n c, .int .i64 n, .slice (some ⟨g2, 0, none⟩) 1 c2] w fun e w' => ∃ g cap, e = .returned (.slice (some ⟨g, 0, none⟩) (n + 1) cap) ∧ w'.ownsRow base 31 8 (.slice (some ⟨g, 0, none⟩) (n + 1) cap) (n + 1) (xs ++ fc) ∧ w.grownBy w' (Value.slice A n c).ownBlock ∧ ((Value.slice A n c).ownBlock = some g ∨ g = w.heap.size) := by
 obtain ⟨i0, hi0, hzz⟩ := Option.map_eq_some_iff.1 info31
 simp only [Prod.mk.injEq] at hzz
 obtain ⟨hz0, hz1, hz2⟩ := hzz
 have hl63 : n + 1 ≤ maxLen := by unfold maxLen; omega
 rcases Nat.lt_or_ge n c with hcn | hcn
 ·have hcn2 : ¬ (c = n) := by omega
  go_enter Try.func42, Try.ntmps42
  go_wp2_with (at_builtin; refine wpList_append_lies _ rfl (.tmp 23) (.tmp 24) 27 rfl base 31 i0 _ 8 64 Try.underlying27 hi0 hz0 hz1 hz2 rfl (by decide) (.slice A n c) n xs rfl hown ⟨g2, 0, none⟩ 1 c2 fc rfl (by omega) (fun j v hj => by rw [add_plain]; exact hfc j v hj) h1 (by omega) hl63 (by omega) hb w.heap.size rfl ?_; intro g cap w2 ho hg hat hlt)
  go_ret
  exact ⟨g, cap, rfl, ho, hg, hat⟩
 ·obtain rfl : c = n := by omega
  go_enter Try.func42, Try.ntmps42
  go_wp2_with (at_builtin; refine wpList_append_lies _ rfl (.tmp 23) (.tmp 24) 27 rfl base 31 i0 _ 8 64 Try.underlying27 hi0 hz0 hz1 hz2 rfl (by decide) (.slice A c c) c xs rfl hown ⟨g2, 0, none⟩ 1 c2 fc rfl (by omega) (fun j v hj => by rw [add_plain]; exact hfc j v hj) h1 (by omega) hl63 (by omega) hb w.heap.size rfl ?_; intro g cap w2 ho hg hat hlt)
  go_ret
  exact ⟨g, cap, rfl, ho, hg, hat⟩
set_option maxHeartbeats 4000000 in
set_option maxRecDepth 100000 in
theorem ins_room (n c i g g2 c2 : Nat) (cur cur2 : Array Value) (xs fc : List Value) (w : World) (hg : w.heap[g]? = some (.cells cur 31 (0, 0))) (hg2 : w.heap[g2]? = some (.cells cur2 31 (0, 0))) (hne : g2 ≠ g) (hcur : cur.size = c * 8) (hxs : cur.toList.take (n * 8) = xs) (hcur2 : cur2.size = c2 * 8) (hc2 : 0 < c2) (hfc : cur2.toList.take 8 = fc)
  (h1 : ∀ v ∈ fc, v.oneCell' = true) (h1x : ∀ v ∈ xs, v.oneCell' = true) (hi : i < n) (hroom : n + 1 ≤ c) (hn : n ≤ 1048576) (hc63 : c ≤ 9223372036854775807) :
  Calls Try.prog 42 #[.slice (some ⟨g, 0, none⟩) n c, .int .i64 i, .slice (some ⟨g2, 0, none⟩) 1 c2] w fun e w' => e = .returned (.slice (some ⟨g, 0, none⟩) (n + 1) c) ∧
   ∃ R1 R2 : Array Value, R1 = (cur.toList.take ((i + 1) * 8) ++ xs.drop (i * 8) ++ cur.toList.drop ((i + 1) * 8 + (xs.drop (i * 8)).length)).toArray ∧ R2 = (R1.toList.take (i * 8) ++ fc ++ R1.toList.drop (i * 8 + fc.length)).toArray ∧ w' = (w.drew.setRow g R1).setRow g R2 := by
 obtain ⟨i0, hi0, hzz⟩ := Option.map_eq_some_iff.1 info31
 simp only [Prod.mk.injEq] at hzz
 obtain ⟨hz0, hz1, hz2⟩ := hzz
 have hsz : (Try.prog.info? 31).map (·.size) = some 8 := by rw [hi0]; simp [hz1]
 have hz3 : ∀ w, (Go.sizeOf 31).run Try.prog w = .ok 8 w := fun w => by simp [sizeOf, typeInfo, hi0, hz1]
 have hov : ∀ lb cb, (callFunc 59 #[.slice (some ⟨g2, 0, none⟩) 1 c2, .slice (some ⟨g, (i + 1) * 8, none⟩) lb cb]).run Try.prog w = .ok (.value (.bool false)) w := fun lb cb => by
  rw [run_callFunc_extern Try.func59 (by kernel_rfl) (by kernel_rfl) (by kernel_rfl) (e := Extern.SlicesOverlaps.overlaps #[27, 27] #[4]) (by kernel_rfl),
   Lib.run_overlaps_apart w 27 4 31 Try.underlying27 8 hz3 ⟨g2, 0, none⟩ ⟨g, (i + 1) * 8, none⟩ 1 c2 lb cb hne 31 31 cur2.size cur.size (by simp [World.shape?, hg2]) (by simp [World.shape?, hg]) (by omega) (by simp [World.frozen?, hg2]) (by simp [World.frozen?, hg2])]
  rfl
 have hw1 : IntKind.i64.wrap ((i : Int) + 1) = (i : Int) + 1 := by rw [IntKind.wrap_i64]; omega
 have hw2 : IntKind.i64.wrap ((n : Int) + 1) = (n : Int) + 1 := by rw [IntKind.wrap_i64]; omega
 have hb1 : (0 : Int) ≤ (i : Int) + 1 := by omega
 have hb0 : (0 : Int) ≤ (n : Int) + 1 := by omega
 have hin : i ≤ n := by omega
 have htn : ((i : Int) + 1).toNat = i + 1 := by omega
 have htn2 : ((n : Int) + 1).toNat = n + 1 := by omega
 have hb2 : ¬ (c = i + 1) := by omega
 have hb3 : (i : Int) ≤ (n : Int) + 1 := by omega
 have hb4 : ¬ (c = i) := by omega
 have hb5 : ¬ ((i : Int) = (n : Int)) := by omega
 have hb6 : ¬ ((n : Int) + 1 > (c : Int)) := by omega
 go_enter Try.func42, Try.ntmps42
 have hxl : xs.length = n * 8 := by rw [← hxs, List.length_take, Array.length_toList, hcur]; omega
 have hdl : (xs.drop (i * 8)).length = (n - i) * 8 := by rw [List.length_drop, hxl]; omega
 have hfl : fc.length = 8 := by rw [← hfc, List.length_take, Array.length_toList, hcur2]; omega
 obtain ⟨R1, hR1⟩ : ∃ R1 : Array Value, R1 = (cur.toList.take ((i + 1) * 8) ++ xs.drop (i * 8) ++ cur.toList.drop ((i + 1) * 8 + (xs.drop (i * 8)).length)).toArray := ⟨_, rfl⟩
 have hR1s : R1.size = c * 8 := by
  rw [hR1]
  simp only [List.size_toArray, List.length_append, List.length_take, List.length_drop, Array.length_toList, hcur, hxl]
  omega
 obtain ⟨R2, hR2⟩ : ∃ R2 : Array Value, R2 = (R1.toList.take (i * 8) ++ fc ++ R1.toList.drop (i * 8 + fc.length)).toArray := ⟨_, rfl⟩
 have hcp1 : ∀ ty dl dc sl sc, Nat.min sl dl = n - i → (Builtin.copy_ #[27, 27] ty #[.slice (some ⟨g, (i + 1) * 8, none⟩) dl dc, .slice (some ⟨g, i * 8, none⟩) sl sc]).run Try.prog w.drew = .ok (goInt ((n - i : Nat) : Int)) (w.drew.setRow g R1) := fun ty dl dc sl sc hm => by
  rw [hR1]
  refine copy_rowK w.drew 27 27 ty 31 8 g ((i + 1) * 8) dl dc ⟨g, i * 8, none⟩ sl sc (n - i) cur 31 (xs.drop (i * 8)) Try.underlying27 hsz hg hm hdl (fun j v hj => ?_) (by rw [hdl, hcur]; omega) (fun v hv => h1x v (List.mem_of_mem_drop hv))
  rw [Addr.add_lit, blk_cell (w := w.drew) hg]
  rw [List.getElem?_drop, ← hxs, List.getElem?_take] at hj
  split at hj
  ·rw [← Array.getElem?_toList]; exact hj
  ·cases hj
 have hcp2 : ∀ W : World, W.heap = (w.drew.setRow g R1).heap → ∀ ty dl dc, 0 < dl → (Builtin.copy_ #[27, 27] ty #[.slice (some ⟨g, i * 8, none⟩) dl dc, .slice (some ⟨g2, 0, none⟩) 1 c2]).run Try.prog W = .ok (goInt 1) (W.setRow g R2) := fun W hW ty dl dc hdp => by
  have hg1 : W.heap[g]? = some (.cells R1 31 (0, 0)) := by rw [hW]; exact setRow_heap w.drew g cur R1 31 (0, 0) hg
  have hg3 : W.heap[g2]? = some (.cells cur2 31 (0, 0)) := by rw [hW, setRow_other w.drew g g2 _ hne]; exact hg2
  rw [hR2]
  refine copy_rowK W 27 27 ty 31 8 g (i * 8) dl dc ⟨g2, 0, none⟩ 1 c2 1 R1 31 fc Try.underlying27 hsz hg1 (by simp only [Nat.min_def]; split <;> omega) (by omega) (fun j v hj => ?_) (by rw [hfl, hR1s]; omega) h1
  rw [Addr.add_lit, blk_cell hg3, Nat.zero_add]
  rw [← hfc, List.getElem?_take] at hj
  split at hj
  ·rw [← Array.getElem?_toList]; exact hj
  ·cases hj
 have HR1 := Aside0.mk hR1
 have HR2 := Aside0.mk hR2
 clear hR1 hR2 hdl hfl hxl hR1s hxs hfc
 go_wp2_with (simp only [hov])
 go_region_law (refine step_copyK rfl (.tmp 73) (.tmp 76) 27 27 rfl (.slice (some ⟨g, (i + 1) * 8, none⟩) (n - i) (c - (i + 1))) (.slice (some ⟨g, i * 8, none⟩) (n + 1 - i) (c - i)) (by simp [Act.eval, Act.put]) (by simp [Act.eval, Act.put]) (hcp1 _ _ _ _ _ (by simp only [Nat.min_def]; split <;> omega)) ?_)
 go_wp2_with ((with_reducible refine gate_builtin (b := .copy) (xs := #[.tmp 80, .tmp 81]) rfl ?_); refine wpList_copyK _ rfl (.tmp 80) (.tmp 81) 27 27 rfl _ _ rfl rfl (hcp2 (w.drew.setRow g R1) rfl 3 (n + 1 - i) (c - i) (by omega)) ?_)
 go_ret
 exact ⟨rfl, R1, R2, HR1.out, HR2.out, rfl⟩
theorem wpList_appendK {P : Program} (w : World) {ops : Array Oper} {rest : List Oper} {o : Oper} {a : Act} {Q : Exit → Act → World → Prop} (hgd : o.guard = none) (d s : Operand) (t t' : TypeId)
  (ho : o.op = .call { callee := .builtin .append, args := #[d, s], argTypes := #[t, t'] }) (v u : Value) (hd : a.eval d = v) (hs : a.eval s = u) {v' : Value} {w' : World}
  (hr : (Builtin.append_ #[t, t'] o.type #[v, u]).run P w = .ok v' w') (h : wpList P ops Q rest (a.put o.dst v') w') : wpList P ops Q (o :: rest) a w :=
 wpList_plain hgd fun K hK => by
  unfold Oper.wp execOp
  simp only [ho, resolve, invoke, builtin, Sem.run_bind, Sem.run_pure, Result.andThen_ok, List.map_toArray, List.map_cons, List.map_nil, hd, hs, hr]
  exact hK _ _ h
set_option maxHeartbeats 4000000 in
set_option maxRecDepth 100000 in
theorem ins_grow (n c i g g2 c2 : Nat) (cur cur2 : Array Value) (xs fc : List Value) (w : World) (hg : w.heap[g]? = some (.cells cur 31 (0, 0))) (hg2 : w.heap[g2]? = some (.cells cur2 31 (0, 0))) (hcur : cur.size = c * 8) (hxs : cur.toList.take (n * 8) = xs) (hcur2 : cur2.size = c2 * 8) (hc2 : 0 < c2) (hfc : cur2.toList.take 8 = fc)
  (h1 : ∀ v ∈ fc, v.oneCell' = true) (h1x : ∀ v ∈ xs, v.oneCell' = true) (hi : i < n) (hnc : n ≤ c) (hroom : c < n + 1) (hn : n ≤ 1048576) :
  Calls Try.prog 42 #[.slice (some ⟨g, 0, none⟩) n c, .int .i64 i, .slice (some ⟨g2, 0, none⟩) 1 c2] w fun e w' => ∃ (G : Nat) (ROW R1 R2 : Array Value), e = .returned (.slice (some ⟨w.heap.size, 0, none⟩) (n + 1) G) ∧ n + 1 ≤ G ∧ G ≤ maxLen ∧ ROW.size = G * 8 ∧ ROW.toList.take (i * 8) = xs.take (i * 8) ∧
   R1 = (ROW.toList.take (i * 8) ++ fc ++ ROW.toList.drop (i * 8 + fc.length)).toArray ∧ R2 = (R1.toList.take ((i + 1) * 8) ++ xs.drop (i * 8) ++ R1.toList.drop ((i + 1) * 8 + (xs.drop (i * 8)).length)).toArray ∧ w' = (((w.drew.alloc (.cells ROW 31)).setRow w.heap.size R1).drew).setRow w.heap.size R2 := by
 obtain ⟨i0, hi0, hzz⟩ := Option.map_eq_some_iff.1 info31
 simp only [Prod.mk.injEq] at hzz
 obtain ⟨hz0, hz1, hz2⟩ := hzz
 have hsz : (Try.prog.info? 31).map (·.size) = some 8 := by rw [hi0]; simp [hz1]
 have hxl : xs.length = n * 8 := by rw [← hxs, List.length_take, Array.length_toList, hcur]; omega
 have hdl : (xs.drop (i * 8)).length = (n - i) * 8 := by rw [List.length_drop, hxl]; omega
 have hfl : fc.length = 8 := by rw [← hfc, List.length_take, Array.length_toList, hcur2]; omega
 have hgw : g < w.heap.size := blk_lt hg
 have hgw2 : g2 < w.heap.size := blk_lt hg2
 have hcx : ∀ j v, xs[j]? = some v → w.cell? ⟨g, j, none⟩ = some v := fun j v hj => by
  rw [blk_cell hg]
  rw [← hxs, List.getElem?_take] at hj
  split at hj
  ·rw [← Array.getElem?_toList]; exact hj
  ·cases hj
 have hold : (Builtin.firstCells i0.size i (.slice (some ⟨g, 0, none⟩) i c)).run Try.prog w.drew = .ok (xs.take (i * 8)).toArray w.drew := by
  rw [hz1]
  exact run_firstCells_some w.drew 8 i ⟨g, 0, none⟩ i c (xs.take (i * 8)) (by rw [List.length_take]; omega) (fun j v hj => by
   rw [Addr.add_lit, Nat.zero_add]
   rw [List.getElem?_take] at hj
   split at hj
   ·exact hcx j v hj
   ·cases hj)
 obtain ⟨G, hG⟩ : ∃ G, G = grownCap w (n + 1) c 31 := ⟨_, rfl⟩
 have hGn : n + 1 ≤ G := by rw [hG]; exact grownCap_ge w _ _ _
 have hGm : G ≤ maxLen := by rw [hG]; exact grownCap_le_maxLen w (n + 1) c 31 (by unfold maxLen; omega)
 have hG63 : G ≤ 9223372036854775807 := by unfold maxLen at hGm; omega
 obtain ⟨Z, hZ⟩ : ∃ Z : Array Value, Z = (Value.agg #[(.int .i64 0), (.int .i64 0), (.int .i64 0), (.int .i64 0), (.int .i64 0), (.int .i64 0), (.int .i64 0), (.int .i64 0)]).cells := ⟨_, rfl⟩
 have hZs : Z.size = 8 := by rw [hZ]; rfl
 obtain ⟨ROW, hROW⟩ : ∃ ROW : Array Value, ROW = (xs.take (i * 8)).toArray ++ Builtin.zeroCells Z (n + 1 - i) ++ Builtin.zeroCells Z (G - (n + 1)) := ⟨_, rfl⟩
 have hRs : ROW.size = G * 8 := by
  rw [hROW]
  simp only [Array.size_append, List.size_toArray, size_zeroCells, hZs, List.length_take, hxl]
  omega
 have hRt : ROW.toList.take (i * 8) = xs.take (i * 8) := by
  rw [hROW]
  simp only [Array.toList_append, List.append_assoc]
  exact List.take_left' (by rw [List.length_take]; omega)
 have hrz : ∀ ty, (Builtin.append_ #[27, 3] ty #[.slice (some ⟨g, 0, none⟩) i c, .int .i64 ((n : Int) + 1 - (i : Int))]).run Try.prog w = .ok (.slice (some ⟨w.heap.size, 0, none⟩) (n + 1) G) (w.drew.alloc (.cells ROW 31)) := fun ty => by
  have h := Lib.run_append_grow_zeros w 27 3 ty 31 i0 _ .i64 .i64 Try.underlying27 Try.underlying3 hi0 hz0 (some ⟨g, 0, none⟩) i c (xs.take (i * 8)) hold (n + 1 - i) (by omega) (by omega) (by omega) (by omega) (by rw [hz2]; omega) (by rw [hz2, show i + (n + 1 - i) = n + 1 by omega]; exact growslice_fits hroom (by omega))
  rw [show i + (n + 1 - i) = n + 1 by omega, ← hZ, ← hG, ← hROW] at h
  rw [show (n : Int) + 1 - (i : Int) = ((n + 1 - i : Nat) : Int) by omega]
  exact h
 obtain ⟨W0, hW0⟩ : ∃ W0, W0 = w.drew.alloc (.cells ROW 31) := ⟨_, rfl⟩
 have hN0 : W0.heap[w.heap.size]? = some (.cells ROW 31 (0, 0)) := by rw [hW0]; exact heap_alloc_new w.drew _
 have hO0 : ∀ k, k < w.heap.size → W0.heap[k]? = w.heap[k]? := fun k hk => by rw [hW0]; exact heap_alloc_old w.drew _ hk
 obtain ⟨R1, hR1⟩ : ∃ R1 : Array Value, R1 = (ROW.toList.take (i * 8) ++ fc ++ ROW.toList.drop (i * 8 + fc.length)).toArray := ⟨_, rfl⟩
 have hR1s : R1.size = G * 8 := by
  rw [hR1]
  simp only [List.size_toArray, List.length_append, List.length_take, List.length_drop, Array.length_toList, hRs, hfl]
  omega
 obtain ⟨R2, hR2⟩ : ∃ R2 : Array Value, R2 = (R1.toList.take ((i + 1) * 8) ++ xs.drop (i * 8) ++ R1.toList.drop ((i + 1) * 8 + (xs.drop (i * 8)).length)).toArray := ⟨_, rfl⟩
 have hcp1 : ∀ ty dl dc, 0 < dl → (Builtin.copy_ #[27, 27] ty #[.slice (some ⟨w.heap.size, i * 8, none⟩) dl dc, .slice (some ⟨g2, 0, none⟩) 1 c2]).run Try.prog W0 = .ok (goInt 1) (W0.setRow w.heap.size R1) := fun ty dl dc hdp => by
  rw [hR1]
  refine copy_rowK W0 27 27 ty 31 8 w.heap.size (i * 8) dl dc ⟨g2, 0, none⟩ 1 c2 1 ROW 31 fc Try.underlying27 hsz hN0 (by simp only [Nat.min_def]; split <;> omega) (by omega) (fun j v hj => ?_) (by rw [hfl, hRs]; omega) h1
  rw [Addr.add_lit, blk_cell ((hO0 g2 hgw2).trans hg2), Nat.zero_add]
  rw [← hfc, List.getElem?_take] at hj
  split at hj
  ·rw [← Array.getElem?_toList]; exact hj
  ·cases hj
 have hcp2 : ∀ W : World, W.heap = (W0.setRow w.heap.size R1).heap → ∀ ty dl dc sl sc, Nat.min sl dl = n - i → (Builtin.copy_ #[27, 27] ty #[.slice (some ⟨w.heap.size, (i + 1) * 8, none⟩) dl dc, .slice (some ⟨g, i * 8, none⟩) sl sc]).run Try.prog W = .ok (goInt ((n - i : Nat) : Int)) (W.setRow w.heap.size R2) := fun W hW ty dl dc sl sc hm => by
  have hN1 : W.heap[w.heap.size]? = some (.cells R1 31 (0, 0)) := by rw [hW]; exact setRow_heap W0 w.heap.size ROW R1 31 (0, 0) hN0
  have hgo : W.heap[g]? = some (.cells cur 31 (0, 0)) := by rw [hW, setRow_other W0 w.heap.size g _ (by omega), hO0 g hgw]; exact hg
  rw [hR2]
  refine copy_rowK W 27 27 ty 31 8 w.heap.size ((i + 1) * 8) dl dc ⟨g, i * 8, none⟩ sl sc (n - i) R1 31 (xs.drop (i * 8)) Try.underlying27 hsz hN1 hm hdl (fun j v hj => ?_) (by rw [hdl, hR1s]; omega) (fun v hv => h1x v (List.mem_of_mem_drop hv))
  rw [Addr.add_lit, blk_cell hgo, ← blk_cell hg]
  exact hcx _ v (by rwa [List.getElem?_drop] at hj)
 have hw1 : IntKind.i64.wrap ((i : Int) + 1) = (i : Int) + 1 := by rw [IntKind.wrap_i64]; omega
 have hw2 : IntKind.i64.wrap ((n : Int) + 1) = (n : Int) + 1 := by rw [IntKind.wrap_i64]; omega
 have hw3 : IntKind.i64.wrap ((n : Int) + 1 - (i : Int)) = (n : Int) + 1 - (i : Int) := by rw [IntKind.wrap_i64]; omega
 have hb1 : (0 : Int) ≤ (i : Int) + 1 := by omega
 have hin : i ≤ n := by omega
 have hic : i ≤ c := by omega
 have htn : ((i : Int) + 1).toNat = i + 1 := by omega
 have hb3 : (i : Int) ≤ (n : Int) + 1 := by omega
 have hb4 : ¬ (c = i) := by omega
 have hb5 : ¬ ((i : Int) = (n : Int)) := by omega
 have hb6 : (c : Int) < (n : Int) + 1 := by omega
 have hGi : ¬ (G = i) := by omega
 have hGi1 : ¬ (G = i + 1) := by omega
 have HR1 := Aside0.mk hR1
 have HR2 := Aside0.mk hR2
 have HW0 := Aside0.mk hW0
 have HRs := Aside0.mk hRs
 have HRt := Aside0.mk hRt
 have HGm := Aside0.mk hGm
 rw [← hW0] at hrz
 clear hR1 hR2 hdl hfl hxl hR1s hxs hfc hW0 hRs hRt hROW hG hZ hZs hGm hold hcx
 go_enter Try.func42, Try.ntmps42
 go_wp2_with (first
  | (at_builtin; refine wpList_appendK _ rfl (.tmp 34) (.tmp 39) 27 3 rfl _ _ rfl rfl (hrz _) ?_)
  | ((with_reducible refine gate_builtin (b := .copy) (xs := #[.tmp 43, .tmp 44]) rfl ?_); refine wpList_copyK _ rfl (.tmp 43) (.tmp 44) 27 27 rfl _ _ rfl rfl (hcp1 3 (n + 1 - i) (G - i) (by omega)) ?_))
 go_region_law (refine step_copyK rfl (.tmp 50) (.tmp 53) 27 27 rfl (.slice (some ⟨w.heap.size, (i + 1) * 8, none⟩) (n - i) (G - (i + 1))) (.slice (some ⟨g, i * 8, none⟩) (n - i) (c - i)) (by simp [Act.eval, Act.put]) (by simp [Act.eval, Act.put]) (hcp2 (W0.setRow w.heap.size R1).drew rfl _ _ _ _ _ (by simp only [Nat.min_def]; split <;> omega)) ?_)
 go_wp2
 go_ret
 exact ⟨G, ROW, R1, R2, rfl, hGn, HGm.out, HRs.out, HRt.out, HR1.out, HR2.out, by rw [← HW0.out]⟩
theorem ins_row1 (C xs fc : List Value) (n i c : Nat) (hC : C.length = c * 8) (hxs : C.take (n * 8) = xs) (hfl : fc.length = 8) (hi : i < n) (hroom : n + 1 ≤ c) (R1 R2 : Array Value)
  (hR1 : R1 = (C.take ((i + 1) * 8) ++ xs.drop (i * 8) ++ C.drop ((i + 1) * 8 + (xs.drop (i * 8)).length)).toArray) (hR2 : R2 = (R1.toList.take (i * 8) ++ fc ++ R1.toList.drop (i * 8 + fc.length)).toArray) :
  R2.size = c * 8 ∧ R2.toList.take ((n + 1) * 8) = xs.take (i * 8) ++ fc ++ xs.drop (i * 8) := by
 have hxl : xs.length = n * 8 := by rw [← hxs, List.length_take]; omega
 have hdl : (xs.drop (i * 8)).length = (n - i) * 8 := by rw [List.length_drop, hxl]; omega
 have e1 : R1.toList.take (i * 8) = xs.take (i * 8) := by
  rw [hR1, ← hxs]
  simp only []
  rw [List.append_assoc, List.take_append_of_le_length (by rw [List.length_take]; omega), List.take_take, List.take_take]
  congr 1
  omega
 have e2 : R1.toList.drop (i * 8 + fc.length) = xs.drop (i * 8) ++ C.drop ((i + 1) * 8 + (xs.drop (i * 8)).length) := by
  rw [hR1]
  simp only []
  rw [List.append_assoc, List.drop_append_of_le_length (by rw [List.length_take]; omega), List.drop_of_length_le (by rw [List.length_take]; omega), List.nil_append]
 rw [e1, e2] at hR2
 subst hR2
 constructor
 ·simp only [List.size_toArray, List.length_append, List.length_take, List.length_drop, hxl, hfl, hC]
  omega
 ·simp only []
  rw [← List.append_assoc]
  exact List.take_left' (by simp only [List.length_append, List.length_take, hdl, hfl, hxl]; omega)
theorem ins_row2 (C xs fc : List Value) (n i c : Nat) (hC : C.length = c * 8) (hxl : xs.length = n * 8) (hCt : C.take (i * 8) = xs.take (i * 8)) (hfl : fc.length = 8) (hi : i < n) (hroom : n + 1 ≤ c) (R1 R2 : Array Value)
  (hR1 : R1 = (C.take (i * 8) ++ fc ++ C.drop (i * 8 + fc.length)).toArray) (hR2 : R2 = (R1.toList.take ((i + 1) * 8) ++ xs.drop (i * 8) ++ R1.toList.drop ((i + 1) * 8 + (xs.drop (i * 8)).length)).toArray) :
  R2.size = c * 8 ∧ R2.toList.take ((n + 1) * 8) = xs.take (i * 8) ++ fc ++ xs.drop (i * 8) := by
 have hdl : (xs.drop (i * 8)).length = (n - i) * 8 := by rw [List.length_drop, hxl]; omega
 have hs : R1.toList.length = c * 8 := by
  rw [hR1]
  simp only [List.length_append, List.length_take, List.length_drop, hfl, hC]
  omega
 have e1 : R1.toList.take ((i + 1) * 8) = xs.take (i * 8) ++ fc := by
  rw [hR1, ← hCt]
  simp only []
  exact List.take_left' (by simp only [List.length_append, List.length_take, hfl, hC]; omega)
 rw [e1] at hR2
 subst hR2
 constructor
 ·simp only [List.size_toArray, List.length_append, List.length_take, List.length_drop, hxl, hfl, hs]
  omega
 ·simp only []
  exact List.take_left' (by simp only [List.length_append, List.length_take, hdl, hfl, hxl]; omega)
theorem ins_done {w w' : World} {B : Nat} {P0 : Nat → Prop} {u v' : Value} {l0 l2 : List S31} {inner fc : List Value} {i : Nat} {P2 : Nat → Prop} {u2 : Value} (hi : i ≤ l0.length) (hl2 : l2.length = 1) (hok : ∀ k, u.ownBlock = some k → P0 k)
  (hr : Reps (k31.M w B (fun k => P0 k ∧ some k ≠ u.ownBlock)) 8 l0 inner) (hr2 : Reps (k31.M w B (fun k => P2 k ∧ some k ≠ u2.ownBlock)) 8 l2 fc)
  (ho : w'.ownsRow B 31 8 v' (l0.length + 1) (inner.take (i * 8) ++ fc ++ inner.drop (i * 8))) (hat : v'.ownBlock = u.ownBlock ∨ ∃ b, v'.ownBlock = some b ∧ w.heap.size ≤ b) :
  Kd.R k31 31 w' B (fun k_ => (P0 k_ ∨ w.heap.size ≤ k_)) v' (l0.take i ++ l2 ++ l0.drop i) := by
 have hM : ∀ {ok : Nat → Prop} (p : S31) (c : List Value), k31.M w B ok p c → k31.M w' B (fun k => (P0 k ∨ w.heap.size ≤ k) ∧ some k ≠ v'.ownBlock) p c := fun p c hp => by
  obtain rfl := k31_openM hp
  exact k31_mkM _ _ _ p
 refine ⟨fun k hk => ?_, inner.take (i * 8) ++ fc ++ inner.drop (i * 8), ?_, ?_⟩
 ·rcases hat with hat | ⟨b, hb, hle⟩
  ·exact .inl (hok k (hat ▸ hk))
  ·rw [hb] at hk
   injection hk with hk
   exact .inr (by omega)
 ·rw [show (l0.take i ++ l2 ++ l0.drop i).length = l0.length + 1 by simp only [List.length_append, List.length_take, List.length_drop, hl2]; omega]
  exact ho
 ·exact Kd.reps_append (Kd.reps_append (Kd.reps_take (hr.imp_ hM) hi) (hr2.imp_ hM)) (Kd.reps_drop (hr.imp_ hM))
def impl_Find_42.f (l0 : List (S31)) (a1 : Int) (l2 : List (S31)) : Option (List (S31)) := if 0 ≤ a1 ∧ a1 ≤ (l0.length : Int) ∧ l2.length = 1 ∧ l0.length ≤ 1048576 then some (l0.take a1.toNat ++ l2 ++ l0.drop a1.toNat) else none
theorem impl_Find_42.calls (P0_ : Nat → Prop) (u9000_ : Value) (l0 : List (S31)) (a1 : Int) (A2 : Option Addr) (c2 : Nat) (l2 : List (S31)) (r : List (S31)) (w0 w : World) (hB : Below w0.heap.size w0 w) (ho0 : Kd.R k31 31 w w0.heap.size P0_ u9000_ l0) (hr2 : ∃ P2 u2, u2 = .slice A2 l2.length c2 ∧ Kd.R k31 31 w w0.heap.size P2 u2 l2 ∧ ∀ k_, P2 k_ → ¬ P0_ k_) (hc2 : l2.length ≤ c2) (h : impl_Find_42.f l0 a1 l2 = some r) :
  Calls Try.prog 42 #[u9000_, .int .i64 a1, .slice A2 l2.length c2] w fun e w' => ∃ v0_ : Value, e = .returned (v0_) ∧ Kd.R k31 31 w' w0.heap.size (fun k_ => (P0_ k_ ∨ w.heap.size ≤ k_)) v0_ r ∧ Below w0.heap.size w0 w' ∧ Kept w w' (fun k_ => P0_ k_) := by
 obtain ⟨P2, u2, rfl, ho2, hdis⟩ := hr2
 unfold impl_Find_42.f at h
 split at h
 case isFalse => cases h
 rename_i hc
 obtain ⟨h0, h0b, hl2, hlen⟩ := hc
 obtain rfl := Option.some.inj h
 clear h
 obtain ⟨i, rfl⟩ := Int.eq_ofNat_of_zero_le h0
 have hin : i ≤ l0.length := by omega
 rw [Int.toNat_natCast]
 obtain ⟨hok2, fc, hown2, hrep2⟩ := ho2
 obtain ⟨hok, inner, hown, hrep⟩ := ho0
 have h1 : ∀ v ∈ fc, v.oneCell' = true := Kd.reps_one hrep2 (by decide) (fun p c hp u hu => by obtain rfl := k31_openM hp; exact k31.K_one (k31.K_of_M hp) u hu)
 have h1x : ∀ v ∈ inner, v.oneCell' = true := Kd.reps_one hrep (by decide) (fun p c hp u hu => by obtain rfl := k31_openM hp; exact k31.K_one (k31.K_of_M hp) u hu)
 have hsz8 : k31.sz = 8 := rfl
 rw [hsz8] at hown2 hown hrep hrep2
 have hfl : fc.length = 8 := by rw [hown2.1, hl2]
 have hil : inner.length = l0.length * 8 := hown.1
 rcases hown2.2 with ⟨_, h_⟩ | ⟨g2, cap2, cur2, he2, hb2, hg2, hnc2, hcm2, hcs2, htk2⟩
 ·omega
 injection he2 with he2 _ he3
 subst he2
 subst he3
 rw [hl2] at htk2 hnc2 ⊢
 have hok2' : P2 g2 := hok2 g2 rfl
 have hfcc : ∀ j v, fc[j]? = some v → w.cell? ⟨g2, j, none⟩ = some v := fun j v hj => by
  rw [blk_cell hg2]
  rw [← htk2, List.getElem?_take] at hj
  split at hj
  ·rw [← Array.getElem?_toList]; exact hj
  ·cases hj
 have fin : ∀ {v' : Value} {w' : World}, w'.ownsRow w0.heap.size 31 8 v' (l0.length + 1) (inner.take (i * 8) ++ fc ++ inner.drop (i * 8)) → w.grownBy w' u9000_.ownBlock → (v'.ownBlock = u9000_.ownBlock ∨ ∃ b, v'.ownBlock = some b ∧ w.heap.size ≤ b) →
   ∃ v0_ : Value, Ending.returned v' = .returned (v0_) ∧ Kd.R k31 31 w' w0.heap.size (fun k_ => (P0_ k_ ∨ w.heap.size ≤ k_)) v0_ (l0.take i ++ l2 ++ l0.drop i) ∧ Below w0.heap.size w0 w' ∧ Kept w w' (fun k_ => P0_ k_) := fun ho hg hat =>
  ⟨_, rfl, ins_done hin hl2 hok hrep hrep2 ho hat, pw_below_grown hB _ hB.size hg (fun k hk => own_base hown k hk), Kept.of_grown hg (Kept.refl _ _) (fun k hk => .inl (hok k hk))⟩
 by_cases hie : i = l0.length
 ·subst hie
  obtain ⟨A, c, he⟩ := own_slice hown
  subst he
  have hcc : l0.length ≤ c := own_le hown
  have hc63 : c ≤ 9223372036854775807 := by
   rcases hown.2 with ⟨h_, hn_⟩ | ⟨g, cap, cur, he, _, _, _, hcm, _⟩
   ·injection h_ with _ _ h3
    omega
   ·injection he with _ _ h3
    unfold maxLen at hcm
    omega
  refine (ins_end w0.heap.size l0.length c g2 c2 A inner fc w hown hfl hfcc h1 hlen hcc hc63 hB.size).mono ?_
  rintro e w' ⟨g, cap, rfl, ho, hg, hat⟩
  refine fin ?_ hg (hat.elim (fun h_ => .inl h_.symm) (fun h_ => .inr ⟨g, rfl, by omega⟩))
  rw [List.take_of_length_le (by omega), List.drop_of_length_le (by omega), List.append_nil]
  exact ho
 have hi : i < l0.length := by omega
 rcases hown.2 with ⟨_, h_⟩ | ⟨g, cap, cur, he, hb, hg, hnc, hcm, hcs, htk⟩
 ·omega
 subst he
 have hne : g2 ≠ g := fun h_ => hdis g2 hok2' (h_ ▸ hok g rfl)
 rcases Nat.lt_or_ge cap (l0.length + 1) with hr | hr
 ·refine (ins_grow l0.length cap i g g2 c2 cur cur2 inner fc w hg hg2 hcs htk hcs2 (by omega) htk2 h1 h1x hi hnc hr hlen).mono ?_
  rintro e w' ⟨G, ROW, R1, R2, rfl, hG1, hG2, hRs, hRt, hR1, hR2, rfl⟩
  obtain ⟨q1, q2⟩ := ins_row2 ROW.toList inner fc l0.length i G (by rw [Array.length_toList]; exact hRs) hil hRt hfl hi hG1 R1 R2 hR1 hR2
  have hN0 : (w.drew.alloc (.cells ROW 31)).heap[w.heap.size]? = some (.cells ROW 31 (0, 0)) := heap_alloc_new w.drew _
  have hN1 := setRow_heap _ w.heap.size ROW R1 31 (0, 0) hN0
  refine fin ⟨?_, .inr ⟨w.heap.size, G, R2, rfl, hB.size, setRow_heap _ w.heap.size R1 R2 31 (0, 0) hN1, hG1, hG2, q1, q2⟩⟩ ⟨rfl, rfl, rfl, by simp, fun k hk _ => ?_⟩ (.inr ⟨w.heap.size, rfl, Nat.le_refl _⟩)
  ·have hq : (R2.toList.take ((l0.length + 1) * 8)).length = (l0.length + 1) * 8 := by
    have h_ := Array.length_toList (xs := R2)
    rw [List.length_take]
    omega
   rw [q2] at hq
   exact hq
  ·rw [setRow_other _ _ k _ (by omega)]
   show ((w.drew.alloc (.cells ROW 31)).setRow w.heap.size R1).heap[k]? = _
   rw [setRow_other _ _ k _ (by omega)]
   exact heap_alloc_old w.drew _ hk
 ·refine (ins_room l0.length cap i g g2 c2 cur cur2 inner fc w hg hg2 hne hcs htk hcs2 (by omega) htk2 h1 h1x hi hr hlen (by unfold maxLen at hcm; omega)).mono ?_
  rintro e w' ⟨rfl, R1, R2, hR1, hR2, rfl⟩
  obtain ⟨q1, q2⟩ := ins_row1 cur.toList inner fc l0.length i cap (by rw [Array.length_toList]; exact hcs) htk hfl hi hr R1 R2 hR1 hR2
  have hN1 := setRow_heap w.drew g cur R1 31 (0, 0) hg
  refine fin ⟨?_, .inr ⟨g, cap, R2, rfl, hb, setRow_heap _ g R1 R2 31 (0, 0) hN1, hr, hcm, q1, q2⟩⟩ ⟨rfl, rfl, rfl, by simp, fun k hk hne_ => ?_⟩ (.inl rfl)
  ·have hq : (R2.toList.take ((l0.length + 1) * 8)).length = (l0.length + 1) * 8 := by
    have h_ := Array.length_toList (xs := R2)
    rw [List.length_take]
    omega
   rw [q2] at hq
   exact hq
  ·have hkg : k ≠ g := fun h_ => hne_ (by rw [h_]; rfl)
   rw [setRow_other _ _ k _ hkg, setRow_other _ _ k _ hkg]
   rfl

end Go.Proofs.Ytkgdofogalfhjac.PFnFinds
