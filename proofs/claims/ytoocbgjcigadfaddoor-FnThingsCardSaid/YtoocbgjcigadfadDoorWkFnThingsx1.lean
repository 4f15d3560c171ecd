/- Contracts of functions that the law FnThings reaches: called with any arguments they return what the plain functions here say, and nothing that lay in memory before is changed; no other conditions. -/
import Derived.Test.YtoocbgjcigadfadDoorShelf
import Derived.Lib.SmallJoins
import Derived.Test.YtoocbgjcigadfadDoorWkFnThingsx0
namespace Go.Proofs.YtoocbgjcigadfadDoor.PFnThings
open Go.RowKit Go.Proofs.YtoocbgjcigadfadDoorW.PrintWords Go.Proofs.YtoocbgjcigadfadDoorW.PrintLast Go.Proofs.YtoocbgjcigadfadDoorW.PrintMore
attribute [local go_sem] max2_int min2_int max_two min_two max_three min_three max_four min_four   -- for this text's walks alone
set_option linter.unusedVariables false
set_option linter.unusedSimpArgs false

/-! ### impl_FormatInt: function 7 -/
theorem tab_below {w w' : World} (h : Lib.TabIs Tryd.prog w "internal/strconv.uint64pow10" .u64 Lib.pow10Tab) (hb : Below w.heap.size w w') : Lib.TabIs Tryd.prog w' "internal/strconv.uint64pow10" .u64 Lib.pow10Tab :=
  Go.Joins.tab_stays (show Tryd.prog.globalNamed "internal/strconv.uint64pow10" = some 0 by kernel_rfl) h hb (Nat.le_refl _)
theorem below_grow (w : World) (n : Nat) (os : Array Obj) : Below w.heap.size w (Sort.grow (w.drewN n) os) := by
  refine ⟨rfl, rfl, rfl, ?_, fun i hi => ?_⟩
  · show w.heap.size ≤ (w.heap ++ os).size
    rw [Array.size_append]
    omega
  · show (w.heap ++ os)[i]? = w.heap[i]?
    rw [Array.getElem?_append_left hi]
def impl_FormatInt.f (k : Nat) (a0 : Int) : Option ByteArray := if -9223372036854775808 ≤ a0 ∧ a0 ≤ 9223372036854775807 then some ⟨(Lib.itoa a0).toArray⟩ else none
theorem impl_FormatInt.mono : ∀ a0 k, LeO (impl_FormatInt.f k a0) (impl_FormatInt.f (k + 1) a0) := fun _ _ => LeO.refl _
set_option maxRecDepth 100000 in
theorem impl_FormatInt.calls (k : Nat) (a0 : Int) (r : ByteArray) (w : World) (htab : Lib.TabIs Tryd.prog w "internal/strconv.uint64pow10" .u64 Lib.pow10Tab) (h : impl_FormatInt.f k a0 = some r) :
    Calls Tryd.prog 7 #[.int .i64 a0] w fun e w' => e = .returned (.string r) ∧ Below w.heap.size w w' := by
  unfold impl_FormatInt.f at h
  by_cases hr : -9223372036854775808 ≤ a0 ∧ a0 ≤ 9223372036854775807
  · rw [if_pos hr] at h
    obtain rfl := Option.some.inj h
    have C := Aside0.mk (Tryd.strconv_Itoa a0 hr.1 hr.2 w htab)
    clear htab hr h
    go_enter Tryd.func7, Tryd.ntmps7
    go_wp2_with (go_at_call 20; refine C.out.mono ?_; rintro e w1 ⟨rfl, kk, os, rfl⟩; have B1 := Aside0.mk (below_grow w kk os))
    go_ret
    exact ⟨rfl, B1.out⟩
  · rw [if_neg hr] at h
    exact absurd h (by simp)

/-! ### impl_InRange: function 26 -/
def impl_InRange.f (a0 : Int) (a1 : Int) (a2 : Int) : Option (Bool) := if a1 ≤ a0 then (some (decide (a0 ≤ a2))) else (some false)
set_option maxHeartbeats 8000000 in
set_option maxRecDepth 100000 in
theorem impl_InRange.calls (a0 : Int) (a1 : Int) (a2 : Int) (r : Bool) (w : World) (h : impl_InRange.f a0 a1 a2 = some r) :
    Calls Tryd.prog 26 #[.int .i64 a0, .int .i64 a1, .int .i64 a2] w fun e w' => e = .returned (.bool r) ∧ Drawn0 w w' := by
  have H : (if a1 ≤ a0 then (some (decide (a0 ≤ a2))) else (some false)) = some r := h
  clear h
  by_cases c4 : a1 ≤ a0
  · rw [if_pos c4] at H
    have c4b0 : decide (a1 ≤ a0) = true := decide_eq_true c4
    clear c4
    obtain rfl := Option.some.inj H
    go_enter Tryd.func26, Tryd.ntmps26
    go_wp2
    go_ret
    exact ⟨by first | rfl | (simp; done) | (simp [*]; done), by repeat (first | exact Drawn0.refl _ | apply Drawn0.step)⟩
  · rw [if_neg c4] at H
    have c4b0 : decide (a1 ≤ a0) = false := decide_eq_false c4
    clear c4
    obtain rfl := Option.some.inj H
    go_enter Tryd.func26, Tryd.ntmps26
    go_wp2
    go_ret
    exact ⟨by first | rfl | (simp; done) | (simp [*]; done), by repeat (first | exact Drawn0.refl _ | apply Drawn0.step)⟩

/-! ### impl_IsThing: function 13 -/
def impl_IsThing.f (a0_0 : Int) (a0_1 : Int) (a0_2 : Int) (a0_3 : Int) (a0_4 : Int) : Option (Bool) := (impl_InRange.f a0_0 1 999).bind fun t127 => (if t127 = true then ((impl_InRange.f a0_1 1 8).bind fun t128 => (if t128 = true then ((impl_InRange.f a0_2 0 7).bind fun t129 => (if t129 = true then ((impl_InRange.f a0_3 1 50).bind fun t130 => (if t130 = true then ((impl_InRange.f a0_4 0 10000000).bind fun t131 => (some t131)) else (some false))) else (some false))) else (some false))) else (some false))
set_option maxHeartbeats 8000000 in
set_option maxRecDepth 100000 in
theorem impl_IsThing.calls (a0_0 : Int) (a0_1 : Int) (a0_2 : Int) (a0_3 : Int) (a0_4 : Int) (r : Bool) (w : World) (h : impl_IsThing.f a0_0 a0_1 a0_2 a0_3 a0_4 = some r) :
    Calls Tryd.prog 13 #[.agg #[.int .i64 a0_0, .int .i64 a0_1, .int .i64 a0_2, .int .i64 a0_3, .int .i64 a0_4]] w fun e w' => e = .returned (.bool r) ∧ Below w.heap.size w w' := by
  have hu27 := Tryd.underlying27
  have HB := Aside0.mk (Below.refl w.heap.size w)
  have H : ((impl_InRange.f a0_0 1 999).bind fun t127 => (if t127 = true then ((impl_InRange.f a0_1 1 8).bind fun t128 => (if t128 = true then ((impl_InRange.f a0_2 0 7).bind fun t129 => (if t129 = true then ((impl_InRange.f a0_3 1 50).bind fun t130 => (if t130 = true then ((impl_InRange.f a0_4 0 10000000).bind fun t131 => (some t131)) else (some false))) else (some false))) else (some false))) else (some false))) = some r := h
  clear h
  replace H := Option.bind_eq_some_iff.mp H
  obtain ⟨t127, A20, H⟩ := H
  replace H : (if t127 = true then ((impl_InRange.f a0_1 1 8).bind fun t128 => (if t128 = true then ((impl_InRange.f a0_2 0 7).bind fun t129 => (if t129 = true then ((impl_InRange.f a0_3 1 50).bind fun t130 => (if t130 = true then ((impl_InRange.f a0_4 0 10000000).bind fun t131 => (some t131)) else (some false))) else (some false))) else (some false))) else (some false)) = some r := H
  have A2 := Aside0.mk A20
  clear A20
  by_cases c3 : t127 = true
  · subst c3
    have H1 : ((impl_InRange.f a0_1 1 8).bind fun t128 => (if t128 = true then ((impl_InRange.f a0_2 0 7).bind fun t129 => (if t129 = true then ((impl_InRange.f a0_3 1 50).bind fun t130 => (if t130 = true then ((impl_InRange.f a0_4 0 10000000).bind fun t131 => (some t131)) else (some false))) else (some false))) else (some false))) = some r := by rw [if_pos rfl] at H; exact H
    clear H
    have H := H1
    clear H1
    replace H := Option.bind_eq_some_iff.mp H
    obtain ⟨t128, A40, H⟩ := H
    replace H : (if t128 = true then ((impl_InRange.f a0_2 0 7).bind fun t129 => (if t129 = true then ((impl_InRange.f a0_3 1 50).bind fun t130 => (if t130 = true then ((impl_InRange.f a0_4 0 10000000).bind fun t131 => (some t131)) else (some false))) else (some false))) else (some false)) = some r := H
    have A4 := Aside0.mk A40
    clear A40
    by_cases c5 : t128 = true
    · subst c5
      have H1 : ((impl_InRange.f a0_2 0 7).bind fun t129 => (if t129 = true then ((impl_InRange.f a0_3 1 50).bind fun t130 => (if t130 = true then ((impl_InRange.f a0_4 0 10000000).bind fun t131 => (some t131)) else (some false))) else (some false))) = some r := by rw [if_pos rfl] at H; exact H
      clear H
      have H := H1
      clear H1
      replace H := Option.bind_eq_some_iff.mp H
      obtain ⟨t129, A60, H⟩ := H
      replace H : (if t129 = true then ((impl_InRange.f a0_3 1 50).bind fun t130 => (if t130 = true then ((impl_InRange.f a0_4 0 10000000).bind fun t131 => (some t131)) else (some false))) else (some false)) = some r := H
      have A6 := Aside0.mk A60
      clear A60
      by_cases c7 : t129 = true
      · subst c7
        have H1 : ((impl_InRange.f a0_3 1 50).bind fun t130 => (if t130 = true then ((impl_InRange.f a0_4 0 10000000).bind fun t131 => (some t131)) else (some false))) = some r := by rw [if_pos rfl] at H; exact H
        clear H
        have H := H1
        clear H1
        replace H := Option.bind_eq_some_iff.mp H
        obtain ⟨t130, A80, H⟩ := H
        replace H : (if t130 = true then ((impl_InRange.f a0_4 0 10000000).bind fun t131 => (some t131)) else (some false)) = some r := H
        have A8 := Aside0.mk A80
        clear A80
        by_cases c9 : t130 = true
        · subst c9
          have H1 : ((impl_InRange.f a0_4 0 10000000).bind fun t131 => (some t131)) = some r := by rw [if_pos rfl] at H; exact H
          clear H
          have H := H1
          clear H1
          replace H := Option.bind_eq_some_iff.mp H
          obtain ⟨t131, A100, H⟩ := H
          replace H : (some t131) = some r := H
          have A10 := Aside0.mk A100
          clear A100
          obtain rfl := Option.some.inj H
          go_enter Tryd.func13, Tryd.ntmps13
          go_wp2_with (first | ((with_reducible refine gate_dst (N := 1) rfl ?_); refine box_event ?hg (N := 1) ?hd (cs := #[.int .i64 a0_0, .int .i64 a0_1, .int .i64 a0_2, .int .i64 a0_3, .int .i64 a0_4]) (t := 27) ?hr ?_; (case hd => rfl); (case hg => rfl); (case hr => first | (go_simp; done) | (go_simp; rfl)); intro gb126 hg w11 hbox hb; have n0_ := Aside0.mk (below_step (by repeat (first | (with_reducible first | exact HB.out | apply below_alloc | apply pw_below_drewN | apply below_drew1) | exact HB.out)) hb); have n1_ := Aside0.mk (hbox); have n2_ := Aside0.mk ((by rw [hg]; exact (below_size (by repeat (first | (with_reducible first | exact HB.out | apply below_alloc | apply pw_below_drewN | apply below_drew1) | exact HB.out))) : w.heap.size ≤ gb126)); have n3_ := Aside0.mk ((by rw [hg]; exact (below_size (by repeat (first | (with_reducible first | exact HB.out | apply below_alloc | apply pw_below_drewN | apply below_drew1) | exact HB.out))) : w.heap.size ≤ gb126)); clear HB; have HB := n0_; have BK126 := n1_; have GW126 := n2_; have GE126 := n3_; clear n0_ n1_ n2_ n3_; clear hb hbox hg; have hcz12_0 : w11.cell? ⟨gb126, 0, none⟩ = some (.int .i64 a0_0) := (blk_cell BK126.out 0).trans rfl; have hcz12_1 : w11.cell? ⟨gb126, 1, none⟩ = some (.int .i64 a0_1) := (blk_cell BK126.out 1).trans rfl; have hcz12_2 : w11.cell? ⟨gb126, 2, none⟩ = some (.int .i64 a0_2) := (blk_cell BK126.out 2).trans rfl; have hcz12_3 : w11.cell? ⟨gb126, 3, none⟩ = some (.int .i64 a0_3) := (blk_cell BK126.out 3).trans rfl; have hcz12_4 : w11.cell? ⟨gb126, 4, none⟩ = some (.int .i64 a0_4) := (blk_cell BK126.out 4).trans rfl; have hfz12_0 := blk_frozen BK126.out 0; have hfz12_1 := blk_frozen BK126.out 1; have hfz12_2 := blk_frozen BK126.out 2; have hfz12_3 := blk_frozen BK126.out 3; have hfz12_4 := blk_frozen BK126.out 4) | ((with_reducible refine gate_callee (f := 26) rfl ?_); refine goesL_ (some 5) rfl rfl Tryd.func26 (by kernel_rfl) rfl #[.int .i64 a0_0, .int .i64 1, .int .i64 999] rfl (by (try simp only [List.map_toArray, List.map_cons, List.map_nil]); first | done | rfl | (simp only [List.length_drop, List.length_take]; rfl)) ?_; (with_reducible refine (impl_InRange.calls a0_0 1 999 true _ A2.out).mono ?_); rintro e w' ⟨rfl, ⟨nd, rfl⟩⟩; refine ⟨_, rfl, ?_⟩) | (go_at_call 26; (with_reducible refine (impl_InRange.calls a0_1 1 8 true _ A4.out).mono ?_); rintro e w' ⟨rfl, ⟨nd, rfl⟩⟩) | (go_at_call 26; (with_reducible refine (impl_InRange.calls a0_2 0 7 true _ A6.out).mono ?_); rintro e w' ⟨rfl, ⟨nd, rfl⟩⟩) | (go_at_call 26; (with_reducible refine (impl_InRange.calls a0_3 1 50 true _ A8.out).mono ?_); rintro e w' ⟨rfl, ⟨nd, rfl⟩⟩) | (go_at_call 26; (with_reducible refine (impl_InRange.calls a0_4 0 10000000 t131 _ A10.out).mono ?_); rintro e w' ⟨rfl, ⟨nd, rfl⟩⟩))
          go_ret
          exact ⟨by first | rfl | (simp [errW_none, errW_some] <;> rfl) | (simp [*, errW_none, errW_some] <;> rfl), by repeat (first | (with_reducible first | exact HB.out | apply below_alloc | apply pw_below_drewN | apply below_drew1 | refine below_set ?_ GE126.out) | exact HB.out)⟩
        · replace c9 := Bool.eq_false_iff.mpr c9
          subst c9
          have H1 : (some false) = some r := by rw [if_neg (show ¬ (false = true) by decide)] at H; exact H
          clear H
          have H := H1
          clear H1
          obtain rfl := Option.some.inj H
          go_enter Tryd.func13, Tryd.ntmps13
          go_wp2_with (first | ((with_reducible refine gate_dst (N := 1) rfl ?_); refine box_event ?hg (N := 1) ?hd (cs := #[.int .i64 a0_0, .int .i64 a0_1, .int .i64 a0_2, .int .i64 a0_3, .int .i64 a0_4]) (t := 27) ?hr ?_; (case hd => rfl); (case hg => rfl); (case hr => first | (go_simp; done) | (go_simp; rfl)); intro gb126 hg w13 hbox hb; have n0_ := Aside0.mk (below_step (by repeat (first | (with_reducible first | exact HB.out | apply below_alloc | apply pw_below_drewN | apply below_drew1) | exact HB.out)) hb); have n1_ := Aside0.mk (hbox); have n2_ := Aside0.mk ((by rw [hg]; exact (below_size (by repeat (first | (with_reducible first | exact HB.out | apply below_alloc | apply pw_below_drewN | apply below_drew1) | exact HB.out))) : w.heap.size ≤ gb126)); have n3_ := Aside0.mk ((by rw [hg]; exact (below_size (by repeat (first | (with_reducible first | exact HB.out | apply below_alloc | apply pw_below_drewN | apply below_drew1) | exact HB.out))) : w.heap.size ≤ gb126)); clear HB; have HB := n0_; have BK126 := n1_; have GW126 := n2_; have GE126 := n3_; clear n0_ n1_ n2_ n3_; clear hb hbox hg; have hcz14_0 : w13.cell? ⟨gb126, 0, none⟩ = some (.int .i64 a0_0) := (blk_cell BK126.out 0).trans rfl; have hcz14_1 : w13.cell? ⟨gb126, 1, none⟩ = some (.int .i64 a0_1) := (blk_cell BK126.out 1).trans rfl; have hcz14_2 : w13.cell? ⟨gb126, 2, none⟩ = some (.int .i64 a0_2) := (blk_cell BK126.out 2).trans rfl; have hcz14_3 : w13.cell? ⟨gb126, 3, none⟩ = some (.int .i64 a0_3) := (blk_cell BK126.out 3).trans rfl; have hcz14_4 : w13.cell? ⟨gb126, 4, none⟩ = some (.int .i64 a0_4) := (blk_cell BK126.out 4).trans rfl; have hfz14_0 := blk_frozen BK126.out 0; have hfz14_1 := blk_frozen BK126.out 1; have hfz14_2 := blk_frozen BK126.out 2; have hfz14_3 := blk_frozen BK126.out 3; have hfz14_4 := blk_frozen BK126.out 4) | ((with_reducible refine gate_callee (f := 26) rfl ?_); refine goesL_ (some 5) rfl rfl Tryd.func26 (by kernel_rfl) rfl #[.int .i64 a0_0, .int .i64 1, .int .i64 999] rfl (by (try simp only [List.map_toArray, List.map_cons, List.map_nil]); first | done | rfl | (simp only [List.length_drop, List.length_take]; rfl)) ?_; (with_reducible refine (impl_InRange.calls a0_0 1 999 true _ A2.out).mono ?_); rintro e w' ⟨rfl, ⟨nd, rfl⟩⟩; refine ⟨_, rfl, ?_⟩) | (go_at_call 26; (with_reducible refine (impl_InRange.calls a0_1 1 8 true _ A4.out).mono ?_); rintro e w' ⟨rfl, ⟨nd, rfl⟩⟩) | (go_at_call 26; (with_reducible refine (impl_InRange.calls a0_2 0 7 true _ A6.out).mono ?_); rintro e w' ⟨rfl, ⟨nd, rfl⟩⟩) | (go_at_call 26; (with_reducible refine (impl_InRange.calls a0_3 1 50 false _ A8.out).mono ?_); rintro e w' ⟨rfl, ⟨nd, rfl⟩⟩))
          go_ret
          exact ⟨by first | rfl | (simp [errW_none, errW_some] <;> rfl) | (simp [*, errW_none, errW_some] <;> rfl), by repeat (first | (with_reducible first | exact HB.out | apply below_alloc | apply pw_below_drewN | apply below_drew1 | refine below_set ?_ GE126.out) | exact HB.out)⟩
      · replace c7 := Bool.eq_false_iff.mpr c7
        subst c7
        have H1 : (some false) = some r := by rw [if_neg (show ¬ (false = true) by decide)] at H; exact H
        clear H
        have H := H1
        clear H1
        obtain rfl := Option.some.inj H
        go_enter Tryd.func13, Tryd.ntmps13
        go_wp2_with (first | ((with_reducible refine gate_dst (N := 1) rfl ?_); refine box_event ?hg (N := 1) ?hd (cs := #[.int .i64 a0_0, .int .i64 a0_1, .int .i64 a0_2, .int .i64 a0_3, .int .i64 a0_4]) (t := 27) ?hr ?_; (case hd => rfl); (case hg => rfl); (case hr => first | (go_simp; done) | (go_simp; rfl)); intro gb126 hg w15 hbox hb; have n0_ := Aside0.mk (below_step (by repeat (first | (with_reducible first | exact HB.out | apply below_alloc | apply pw_below_drewN | apply below_drew1) | exact HB.out)) hb); have n1_ := Aside0.mk (hbox); have n2_ := Aside0.mk ((by rw [hg]; exact (below_size (by repeat (first | (with_reducible first | exact HB.out | apply below_alloc | apply pw_below_drewN | apply below_drew1) | exact HB.out))) : w.heap.size ≤ gb126)); have n3_ := Aside0.mk ((by rw [hg]; exact (below_size (by repeat (first | (with_reducible first | exact HB.out | apply below_alloc | apply pw_below_drewN | apply below_drew1) | exact HB.out))) : w.heap.size ≤ gb126)); clear HB; have HB := n0_; have BK126 := n1_; have GW126 := n2_; have GE126 := n3_; clear n0_ n1_ n2_ n3_; clear hb hbox hg; have hcz16_0 : w15.cell? ⟨gb126, 0, none⟩ = some (.int .i64 a0_0) := (blk_cell BK126.out 0).trans rfl; have hcz16_1 : w15.cell? ⟨gb126, 1, none⟩ = some (.int .i64 a0_1) := (blk_cell BK126.out 1).trans rfl; have hcz16_2 : w15.cell? ⟨gb126, 2, none⟩ = some (.int .i64 a0_2) := (blk_cell BK126.out 2).trans rfl; have hcz16_3 : w15.cell? ⟨gb126, 3, none⟩ = some (.int .i64 a0_3) := (blk_cell BK126.out 3).trans rfl; have hcz16_4 : w15.cell? ⟨gb126, 4, none⟩ = some (.int .i64 a0_4) := (blk_cell BK126.out 4).trans rfl; have hfz16_0 := blk_frozen BK126.out 0; have hfz16_1 := blk_frozen BK126.out 1; have hfz16_2 := blk_frozen BK126.out 2; have hfz16_3 := blk_frozen BK126.out 3; have hfz16_4 := blk_frozen BK126.out 4) | ((with_reducible refine gate_callee (f := 26) rfl ?_); refine goesL_ (some 5) rfl rfl Tryd.func26 (by kernel_rfl) rfl #[.int .i64 a0_0, .int .i64 1, .int .i64 999] rfl (by (try simp only [List.map_toArray, List.map_cons, List.map_nil]); first | done | rfl | (simp only [List.length_drop, List.length_take]; rfl)) ?_; (with_reducible refine (impl_InRange.calls a0_0 1 999 true _ A2.out).mono ?_); rintro e w' ⟨rfl, ⟨nd, rfl⟩⟩; refine ⟨_, rfl, ?_⟩) | (go_at_call 26; (with_reducible refine (impl_InRange.calls a0_1 1 8 true _ A4.out).mono ?_); rintro e w' ⟨rfl, ⟨nd, rfl⟩⟩) | (go_at_call 26; (with_reducible refine (impl_InRange.calls a0_2 0 7 false _ A6.out).mono ?_); rintro e w' ⟨rfl, ⟨nd, rfl⟩⟩))
        go_ret
        exact ⟨by first | rfl | (simp [errW_none, errW_some] <;> rfl) | (simp [*, errW_none, errW_some] <;> rfl), by repeat (first | (with_reducible first | exact HB.out | apply below_alloc | apply pw_below_drewN | apply below_drew1 | refine below_set ?_ GE126.out) | exact HB.out)⟩
    · replace c5 := Bool.eq_false_iff.mpr c5
      subst c5
      have H1 : (some false) = some r := by rw [if_neg (show ¬ (false = true) by decide)] at H; exact H
      clear H
      have H := H1
      clear H1
      obtain rfl := Option.some.inj H
      go_enter Tryd.func13, Tryd.ntmps13
      go_wp2_with (first | ((with_reducible refine gate_dst (N := 1) rfl ?_); refine box_event ?hg (N := 1) ?hd (cs := #[.int .i64 a0_0, .int .i64 a0_1, .int .i64 a0_2, .int .i64 a0_3, .int .i64 a0_4]) (t := 27) ?hr ?_; (case hd => rfl); (case hg => rfl); (case hr => first | (go_simp; done) | (go_simp; rfl)); intro gb126 hg w17 hbox hb; have n0_ := Aside0.mk (below_step (by repeat (first | (with_reducible first | exact HB.out | apply below_alloc | apply pw_below_drewN | apply below_drew1) | exact HB.out)) hb); have n1_ := Aside0.mk (hbox); have n2_ := Aside0.mk ((by rw [hg]; exact (below_size (by repeat (first | (with_reducible first | exact HB.out | apply below_alloc | apply pw_below_drewN | apply below_drew1) | exact HB.out))) : w.heap.size ≤ gb126)); have n3_ := Aside0.mk ((by rw [hg]; exact (below_size (by repeat (first | (with_reducible first | exact HB.out | apply below_alloc | apply pw_below_drewN | apply below_drew1) | exact HB.out))) : w.heap.size ≤ gb126)); clear HB; have HB := n0_; have BK126 := n1_; have GW126 := n2_; have GE126 := n3_; clear n0_ n1_ n2_ n3_; clear hb hbox hg; have hcz18_0 : w17.cell? ⟨gb126, 0, none⟩ = some (.int .i64 a0_0) := (blk_cell BK126.out 0).trans rfl; have hcz18_1 : w17.cell? ⟨gb126, 1, none⟩ = some (.int .i64 a0_1) := (blk_cell BK126.out 1).trans rfl; have hcz18_2 : w17.cell? ⟨gb126, 2, none⟩ = some (.int .i64 a0_2) := (blk_cell BK126.out 2).trans rfl; have hcz18_3 : w17.cell? ⟨gb126, 3, none⟩ = some (.int .i64 a0_3) := (blk_cell BK126.out 3).trans rfl; have hcz18_4 : w17.cell? ⟨gb126, 4, none⟩ = some (.int .i64 a0_4) := (blk_cell BK126.out 4).trans rfl; have hfz18_0 := blk_frozen BK126.out 0; have hfz18_1 := blk_frozen BK126.out 1; have hfz18_2 := blk_frozen BK126.out 2; have hfz18_3 := blk_frozen BK126.out 3; have hfz18_4 := blk_frozen BK126.out 4) | ((with_reducible refine gate_callee (f := 26) rfl ?_); refine goesL_ (some 5) rfl rfl Tryd.func26 (by kernel_rfl) rfl #[.int .i64 a0_0, .int .i64 1, .int .i64 999] rfl (by (try simp only [List.map_toArray, List.map_cons, List.map_nil]); first | done | rfl | (simp only [List.length_drop, List.length_take]; rfl)) ?_; (with_reducible refine (impl_InRange.calls a0_0 1 999 true _ A2.out).mono ?_); rintro e w' ⟨rfl, ⟨nd, rfl⟩⟩; refine ⟨_, rfl, ?_⟩) | (go_at_call 26; (with_reducible refine (impl_InRange.calls a0_1 1 8 false _ A4.out).mono ?_); rintro e w' ⟨rfl, ⟨nd, rfl⟩⟩))
      go_ret
      exact ⟨by first | rfl | (simp [errW_none, errW_some] <;> rfl) | (simp [*, errW_none, errW_some] <;> rfl), by repeat (first | (with_reducible first | exact HB.out | apply below_alloc | apply pw_below_drewN | apply below_drew1 | refine below_set ?_ GE126.out) | exact HB.out)⟩
  · replace c3 := Bool.eq_false_iff.mpr c3
    subst c3
    have H1 : (some false) = some r := by rw [if_neg (show ¬ (false = true) by decide)] at H; exact H
    clear H
    have H := H1
    clear H1
    obtain rfl := Option.some.inj H
    go_enter Tryd.func13, Tryd.ntmps13
    go_wp2_with (first | ((with_reducible refine gate_dst (N := 1) rfl ?_); refine box_event ?hg (N := 1) ?hd (cs := #[.int .i64 a0_0, .int .i64 a0_1, .int .i64 a0_2, .int .i64 a0_3, .int .i64 a0_4]) (t := 27) ?hr ?_; (case hd => rfl); (case hg => rfl); (case hr => first | (go_simp; done) | (go_simp; rfl)); intro gb126 hg w19 hbox hb; have n0_ := Aside0.mk (below_step (by repeat (first | (with_reducible first | exact HB.out | apply below_alloc | apply pw_below_drewN | apply below_drew1) | exact HB.out)) hb); have n1_ := Aside0.mk (hbox); have n2_ := Aside0.mk ((by rw [hg]; exact (below_size (by repeat (first | (with_reducible first | exact HB.out | apply below_alloc | apply pw_below_drewN | apply below_drew1) | exact HB.out))) : w.heap.size ≤ gb126)); have n3_ := Aside0.mk ((by rw [hg]; exact (below_size (by repeat (first | (with_reducible first | exact HB.out | apply below_alloc | apply pw_below_drewN | apply below_drew1) | exact HB.out))) : w.heap.size ≤ gb126)); clear HB; have HB := n0_; have BK126 := n1_; have GW126 := n2_; have GE126 := n3_; clear n0_ n1_ n2_ n3_; clear hb hbox hg; have hcz20_0 : w19.cell? ⟨gb126, 0, none⟩ = some (.int .i64 a0_0) := (blk_cell BK126.out 0).trans rfl; have hcz20_1 : w19.cell? ⟨gb126, 1, none⟩ = some (.int .i64 a0_1) := (blk_cell BK126.out 1).trans rfl; have hcz20_2 : w19.cell? ⟨gb126, 2, none⟩ = some (.int .i64 a0_2) := (blk_cell BK126.out 2).trans rfl; have hcz20_3 : w19.cell? ⟨gb126, 3, none⟩ = some (.int .i64 a0_3) := (blk_cell BK126.out 3).trans rfl; have hcz20_4 : w19.cell? ⟨gb126, 4, none⟩ = some (.int .i64 a0_4) := (blk_cell BK126.out 4).trans rfl; have hfz20_0 := blk_frozen BK126.out 0; have hfz20_1 := blk_frozen BK126.out 1; have hfz20_2 := blk_frozen BK126.out 2; have hfz20_3 := blk_frozen BK126.out 3; have hfz20_4 := blk_frozen BK126.out 4) | ((with_reducible refine gate_callee (f := 26) rfl ?_); refine goesL_ (some 5) rfl rfl Tryd.func26 (by kernel_rfl) rfl #[.int .i64 a0_0, .int .i64 1, .int .i64 999] rfl (by (try simp only [List.map_toArray, List.map_cons, List.map_nil]); first | done | rfl | (simp only [List.length_drop, List.length_take]; rfl)) ?_; (with_reducible refine (impl_InRange.calls a0_0 1 999 false _ A2.out).mono ?_); rintro e w' ⟨rfl, ⟨nd, rfl⟩⟩; refine ⟨_, rfl, ?_⟩))
    go_ret
    exact ⟨by first | rfl | (simp [errW_none, errW_some] <;> rfl) | (simp [*, errW_none, errW_some] <;> rfl), by repeat (first | (with_reducible first | exact HB.out | apply below_alloc | apply pw_below_drewN | apply below_drew1 | refine below_set ?_ GE126.out) | exact HB.out)⟩

/-! ### impl_KindText: function 14 -/
def impl_KindText.f (a0 : Int) : Option (ByteArray) := (impl_InRange.f a0 1 8).bind fun t132 => (if t132 = true then ((some (([(⟨#[]⟩ : ByteArray), (⟨#[98, 97, 103]⟩ : ByteArray), (⟨#[99, 111, 97, 116]⟩ : ByteArray), (⟨#[107, 101, 121, 115]⟩ : ByteArray), (⟨#[109, 111, 110, 101, 121]⟩ : ByteArray), (⟨#[112, 104, 111, 110, 101]⟩ : ByteArray), (⟨#[117, 109, 98, 114, 101, 108, 108, 97]⟩ : ByteArray), (⟨#[102, 111, 111, 100]⟩ : ByteArray), (⟨#[111, 116, 104, 101, 114]⟩ : ByteArray)] : List ByteArray) : List ByteArray)).bind fun y133 => (if 0 ≤ a0 then (if a0 < (y133.length : Int) then (some (rdOf ByteArray.empty y133 a0)) else (none)) else (none))) else (some (⟨#[]⟩ : ByteArray)))
theorem impl_KindText.inr (a b c : Int) : impl_InRange.f a b c = some (decide (b ≤ a) && decide (a ≤ c)) := by
  unfold impl_InRange.f
  by_cases h : b ≤ a <;> simp [h]
set_option maxRecDepth 100000 in
theorem impl_KindText.at1 (w : World) : Calls Tryd.prog 14 #[.int .i64 1] w fun e w' => e = .returned (.string ⟨#[98, 97, 103]⟩) ∧ Below w.heap.size w w' := by
  have hu := Tryd.underlying44
  have A := Aside0.mk (show impl_InRange.f 1 1 8 = some true from impl_KindText.inr 1 1 8)
  go_enter Tryd.func14, Tryd.ntmps14
  go_wp2_with (go_at_call 26; (with_reducible refine (impl_InRange.calls 1 1 8 true _ A.out).mono ?_); rintro e w' ⟨rfl, ⟨nd, rfl⟩⟩)
  go_ret
  exact ⟨rfl, pw_below_drewN (below_alloc (Below.refl _ _) _) _⟩
set_option maxRecDepth 100000 in
theorem impl_KindText.at2 (w : World) : Calls Tryd.prog 14 #[.int .i64 2] w fun e w' => e = .returned (.string ⟨#[99, 111, 97, 116]⟩) ∧ Below w.heap.size w w' := by
  have hu := Tryd.underlying44
  have A := Aside0.mk (show impl_InRange.f 2 1 8 = some true from impl_KindText.inr 2 1 8)
  go_enter Tryd.func14, Tryd.ntmps14
  go_wp2_with (go_at_call 26; (with_reducible refine (impl_InRange.calls 2 1 8 true _ A.out).mono ?_); rintro e w' ⟨rfl, ⟨nd, rfl⟩⟩)
  go_ret
  exact ⟨rfl, pw_below_drewN (below_alloc (Below.refl _ _) _) _⟩
set_option maxRecDepth 100000 in
theorem impl_KindText.at3 (w : World) : Calls Tryd.prog 14 #[.int .i64 3] w fun e w' => e = .returned (.string ⟨#[107, 101, 121, 115]⟩) ∧ Below w.heap.size w w' := by
  have hu := Tryd.underlying44
  have A := Aside0.mk (show impl_InRange.f 3 1 8 = some true from impl_KindText.inr 3 1 8)
  go_enter Tryd.func14, Tryd.ntmps14
  go_wp2_with (go_at_call 26; (with_reducible refine (impl_InRange.calls 3 1 8 true _ A.out).mono ?_); rintro e w' ⟨rfl, ⟨nd, rfl⟩⟩)
  go_ret
  exact ⟨rfl, pw_below_drewN (below_alloc (Below.refl _ _) _) _⟩
set_option maxRecDepth 100000 in
theorem impl_KindText.at4 (w : World) : Calls Tryd.prog 14 #[.int .i64 4] w fun e w' => e = .returned (.string ⟨#[109, 111, 110, 101, 121]⟩) ∧ Below w.heap.size w w' := by
  have hu := Tryd.underlying44
  have A := Aside0.mk (show impl_InRange.f 4 1 8 = some true from impl_KindText.inr 4 1 8)
  go_enter Tryd.func14, Tryd.ntmps14
  go_wp2_with (go_at_call 26; (with_reducible refine (impl_InRange.calls 4 1 8 true _ A.out).mono ?_); rintro e w' ⟨rfl, ⟨nd, rfl⟩⟩)
  go_ret
  exact ⟨rfl, pw_below_drewN (below_alloc (Below.refl _ _) _) _⟩
set_option maxRecDepth 100000 in
theorem impl_KindText.at5 (w : World) : Calls Tryd.prog 14 #[.int .i64 5] w fun e w' => e = .returned (.string ⟨#[112, 104, 111, 110, 101]⟩) ∧ Below w.heap.size w w' := by
  have hu := Tryd.underlying44
  have A := Aside0.mk (show impl_InRange.f 5 1 8 = some true from impl_KindText.inr 5 1 8)
  go_enter Tryd.func14, Tryd.ntmps14
  go_wp2_with (go_at_call 26; (with_reducible refine (impl_InRange.calls 5 1 8 true _ A.out).mono ?_); rintro e w' ⟨rfl, ⟨nd, rfl⟩⟩)
  go_ret
  exact ⟨rfl, pw_below_drewN (below_alloc (Below.refl _ _) _) _⟩
set_option maxRecDepth 100000 in
theorem impl_KindText.at6 (w : World) : Calls Tryd.prog 14 #[.int .i64 6] w fun e w' => e = .returned (.string ⟨#[117, 109, 98, 114, 101, 108, 108, 97]⟩) ∧ Below w.heap.size w w' := by
  have hu := Tryd.underlying44
  have A := Aside0.mk (show impl_InRange.f 6 1 8 = some true from impl_KindText.inr 6 1 8)
  go_enter Tryd.func14, Tryd.ntmps14
  go_wp2_with (go_at_call 26; (with_reducible refine (impl_InRange.calls 6 1 8 true _ A.out).mono ?_); rintro e w' ⟨rfl, ⟨nd, rfl⟩⟩)
  go_ret
  exact ⟨rfl, pw_below_drewN (below_alloc (Below.refl _ _) _) _⟩
set_option maxRecDepth 100000 in
theorem impl_KindText.at7 (w : World) : Calls Tryd.prog 14 #[.int .i64 7] w fun e w' => e = .returned (.string ⟨#[102, 111, 111, 100]⟩) ∧ Below w.heap.size w w' := by
  have hu := Tryd.underlying44
  have A := Aside0.mk (show impl_InRange.f 7 1 8 = some true from impl_KindText.inr 7 1 8)
  go_enter Tryd.func14, Tryd.ntmps14
  go_wp2_with (go_at_call 26; (with_reducible refine (impl_InRange.calls 7 1 8 true _ A.out).mono ?_); rintro e w' ⟨rfl, ⟨nd, rfl⟩⟩)
  go_ret
  exact ⟨rfl, pw_below_drewN (below_alloc (Below.refl _ _) _) _⟩
set_option maxRecDepth 100000 in
theorem impl_KindText.at8 (w : World) : Calls Tryd.prog 14 #[.int .i64 8] w fun e w' => e = .returned (.string ⟨#[111, 116, 104, 101, 114]⟩) ∧ Below w.heap.size w w' := by
  have hu := Tryd.underlying44
  have A := Aside0.mk (show impl_InRange.f 8 1 8 = some true from impl_KindText.inr 8 1 8)
  go_enter Tryd.func14, Tryd.ntmps14
  go_wp2_with (go_at_call 26; (with_reducible refine (impl_InRange.calls 8 1 8 true _ A.out).mono ?_); rintro e w' ⟨rfl, ⟨nd, rfl⟩⟩)
  go_ret
  exact ⟨rfl, pw_below_drewN (below_alloc (Below.refl _ _) _) _⟩
set_option maxRecDepth 100000 in
theorem impl_KindText.out (a : Int) (h : impl_InRange.f a 1 8 = some false) (w : World) : Calls Tryd.prog 14 #[.int .i64 a] w fun e w' => e = .returned (.string ⟨#[]⟩) ∧ Below w.heap.size w w' := by
  have hu := Tryd.underlying44
  have A := Aside0.mk h
  clear h
  go_enter Tryd.func14, Tryd.ntmps14
  go_wp2_with (go_at_call 26; (with_reducible refine (impl_InRange.calls a 1 8 false _ A.out).mono ?_); rintro e w' ⟨rfl, ⟨nd, rfl⟩⟩)
  go_ret
  exact ⟨rfl, pw_below_drewN (below_alloc (Below.refl _ _) _) _⟩
theorem impl_KindText.calls (a0 : Int) (r : ByteArray) (w : World) (h : impl_KindText.f a0 = some r) :
    Calls Tryd.prog 14 #[.int .i64 a0] w fun e w' => e = .returned (.string r) ∧ Below w.heap.size w w' := by
  by_cases hr : 1 ≤ a0 ∧ a0 ≤ 8
  · have : a0 = 1 ∨ a0 = 2 ∨ a0 = 3 ∨ a0 = 4 ∨ a0 = 5 ∨ a0 = 6 ∨ a0 = 7 ∨ a0 = 8 := by omega
    rcases this with rfl | rfl | rfl | rfl | rfl | rfl | rfl | rfl
    · obtain rfl := Option.some.inj ((show some (⟨#[98, 97, 103]⟩ : ByteArray) = impl_KindText.f 1 from rfl).trans h)
      exact impl_KindText.at1 w
    · obtain rfl := Option.some.inj ((show some (⟨#[99, 111, 97, 116]⟩ : ByteArray) = impl_KindText.f 2 from rfl).trans h)
      exact impl_KindText.at2 w
    · obtain rfl := Option.some.inj ((show some (⟨#[107, 101, 121, 115]⟩ : ByteArray) = impl_KindText.f 3 from rfl).trans h)
      exact impl_KindText.at3 w
    · obtain rfl := Option.some.inj ((show some (⟨#[109, 111, 110, 101, 121]⟩ : ByteArray) = impl_KindText.f 4 from rfl).trans h)
      exact impl_KindText.at4 w
    · obtain rfl := Option.some.inj ((show some (⟨#[112, 104, 111, 110, 101]⟩ : ByteArray) = impl_KindText.f 5 from rfl).trans h)
      exact impl_KindText.at5 w
    · obtain rfl := Option.some.inj ((show some (⟨#[117, 109, 98, 114, 101, 108, 108, 97]⟩ : ByteArray) = impl_KindText.f 6 from rfl).trans h)
      exact impl_KindText.at6 w
    · obtain rfl := Option.some.inj ((show some (⟨#[102, 111, 111, 100]⟩ : ByteArray) = impl_KindText.f 7 from rfl).trans h)
      exact impl_KindText.at7 w
    · obtain rfl := Option.some.inj ((show some (⟨#[111, 116, 104, 101, 114]⟩ : ByteArray) = impl_KindText.f 8 from rfl).trans h)
      exact impl_KindText.at8 w
  · have e : impl_InRange.f a0 1 8 = some false := by
      rw [impl_KindText.inr]
      congr 1
      rw [Bool.eq_false_iff]
      intro hh
      simp at hh
      omega
    unfold impl_KindText.f at h
    rw [e, Option.bind_some, if_neg (by decide)] at h
    obtain rfl := Option.some.inj h
    exact impl_KindText.out a0 e w

/-! ### impl_ColourText: function 15 -/
def impl_ColourText.f (a0 : Int) : Option (ByteArray) := (impl_InRange.f a0 0 7).bind fun t137 => (if t137 = true then ((some (([(⟨#[98, 108, 97, 99, 107]⟩ : ByteArray), (⟨#[119, 104, 105, 116, 101]⟩ : ByteArray), (⟨#[114, 101, 100]⟩ : ByteArray), (⟨#[103, 114, 101, 101, 110]⟩ : ByteArray), (⟨#[98, 108, 117, 101]⟩ : ByteArray), (⟨#[121, 101, 108, 108, 111, 119]⟩ : ByteArray), (⟨#[98, 114, 111, 119, 110]⟩ : ByteArray), (⟨#[103, 114, 101, 121]⟩ : ByteArray)] : List ByteArray) : List ByteArray)).bind fun y138 => (if 0 ≤ a0 then (if a0 < (y138.length : Int) then (some (rdOf ByteArray.empty y138 a0)) else (none)) else (none))) else (some (⟨#[]⟩ : ByteArray)))
theorem impl_ColourText.inr (a b c : Int) : impl_InRange.f a b c = some (decide (b ≤ a) && decide (a ≤ c)) := by
  unfold impl_InRange.f
  by_cases h : b ≤ a <;> simp [h]
set_option maxRecDepth 100000 in
theorem impl_ColourText.at0 (w : World) : Calls Tryd.prog 15 #[.int .i64 0] w fun e w' => e = .returned (.string ⟨#[98, 108, 97, 99, 107]⟩) ∧ Below w.heap.size w w' := by
  have hu := Tryd.underlying44
  have A := Aside0.mk (show impl_InRange.f 0 0 7 = some true from impl_ColourText.inr 0 0 7)
  go_enter Tryd.func15, Tryd.ntmps15
  go_wp2_with (go_at_call 26; (with_reducible refine (impl_InRange.calls 0 0 7 true _ A.out).mono ?_); rintro e w' ⟨rfl, ⟨nd, rfl⟩⟩)
  go_ret
  exact ⟨rfl, pw_below_drewN (below_alloc (Below.refl _ _) _) _⟩
set_option maxRecDepth 100000 in
theorem impl_ColourText.at1 (w : World) : Calls Tryd.prog 15 #[.int .i64 1] w fun e w' => e = .returned (.string ⟨#[119, 104, 105, 116, 101]⟩) ∧ Below w.heap.size w w' := by
  have hu := Tryd.underlying44
  have A := Aside0.mk (show impl_InRange.f 1 0 7 = some true from impl_ColourText.inr 1 0 7)
  go_enter Tryd.func15, Tryd.ntmps15
  go_wp2_with (go_at_call 26; (with_reducible refine (impl_InRange.calls 1 0 7 true _ A.out).mono ?_); rintro e w' ⟨rfl, ⟨nd, rfl⟩⟩)
  go_ret
  exact ⟨rfl, pw_below_drewN (below_alloc (Below.refl _ _) _) _⟩
set_option maxRecDepth 100000 in
theorem impl_ColourText.at2 (w : World) : Calls Tryd.prog 15 #[.int .i64 2] w fun e w' => e = .returned (.string ⟨#[114, 101, 100]⟩) ∧ Below w.heap.size w w' := by
  have hu := Tryd.underlying44
  have A := Aside0.mk (show impl_InRange.f 2 0 7 = some true from impl_ColourText.inr 2 0 7)
  go_enter Tryd.func15, Tryd.ntmps15
  go_wp2_with (go_at_call 26; (with_reducible refine (impl_InRange.calls 2 0 7 true _ A.out).mono ?_); rintro e w' ⟨rfl, ⟨nd, rfl⟩⟩)
  go_ret
  exact ⟨rfl, pw_below_drewN (below_alloc (Below.refl _ _) _) _⟩
set_option maxRecDepth 100000 in
theorem impl_ColourText.at3 (w : World) : Calls Tryd.prog 15 #[.int .i64 3] w fun e w' => e = .returned (.string ⟨#[103, 114, 101, 101, 110]⟩) ∧ Below w.heap.size w w' := by
  have hu := Tryd.underlying44
  have A := Aside0.mk (show impl_InRange.f 3 0 7 = some true from impl_ColourText.inr 3 0 7)
  go_enter Tryd.func15, Tryd.ntmps15
  go_wp2_with (go_at_call 26; (with_reducible refine (impl_InRange.calls 3 0 7 true _ A.out).mono ?_); rintro e w' ⟨rfl, ⟨nd, rfl⟩⟩)
  go_ret
  exact ⟨rfl, pw_below_drewN (below_alloc (Below.refl _ _) _) _⟩
set_option maxRecDepth 100000 in
theorem impl_ColourText.at4 (w : World) : Calls Tryd.prog 15 #[.int .i64 4] w fun e w' => e = .returned (.string ⟨#[98, 108, 117, 101]⟩) ∧ Below w.heap.size w w' := by
  have hu := Tryd.underlying44
  have A := Aside0.mk (show impl_InRange.f 4 0 7 = some true from impl_ColourText.inr 4 0 7)
  go_enter Tryd.func15, Tryd.ntmps15
  go_wp2_with (go_at_call 26; (with_reducible refine (impl_InRange.calls 4 0 7 true _ A.out).mono ?_); rintro e w' ⟨rfl, ⟨nd, rfl⟩⟩)
  go_ret
  exact ⟨rfl, pw_below_drewN (below_alloc (Below.refl _ _) _) _⟩
set_option maxRecDepth 100000 in
theorem impl_ColourText.at5 (w : World) : Calls Tryd.prog 15 #[.int .i64 5] w fun e w' => e = .returned (.string ⟨#[121, 101, 108, 108, 111, 119]⟩) ∧ Below w.heap.size w w' := by
  have hu := Tryd.underlying44
  have A := Aside0.mk (show impl_InRange.f 5 0 7 = some true from impl_ColourText.inr 5 0 7)
  go_enter Tryd.func15, Tryd.ntmps15
  go_wp2_with (go_at_call 26; (with_reducible refine (impl_InRange.calls 5 0 7 true _ A.out).mono ?_); rintro e w' ⟨rfl, ⟨nd, rfl⟩⟩)
  go_ret
  exact ⟨rfl, pw_below_drewN (below_alloc (Below.refl _ _) _) _⟩
set_option maxRecDepth 100000 in
theorem impl_ColourText.at6 (w : World) : Calls Tryd.prog 15 #[.int .i64 6] w fun e w' => e = .returned (.string ⟨#[98, 114, 111, 119, 110]⟩) ∧ Below w.heap.size w w' := by
  have hu := Tryd.underlying44
  have A := Aside0.mk (show impl_InRange.f 6 0 7 = some true from impl_ColourText.inr 6 0 7)
  go_enter Tryd.func15, Tryd.ntmps15
  go_wp2_with (go_at_call 26; (with_reducible refine (impl_InRange.calls 6 0 7 true _ A.out).mono ?_); rintro e w' ⟨rfl, ⟨nd, rfl⟩⟩)
  go_ret
  exact ⟨rfl, pw_below_drewN (below_alloc (Below.refl _ _) _) _⟩
set_option maxRecDepth 100000 in
theorem impl_ColourText.at7 (w : World) : Calls Tryd.prog 15 #[.int .i64 7] w fun e w' => e = .returned (.string ⟨#[103, 114, 101, 121]⟩) ∧ Below w.heap.size w w' := by
  have hu := Tryd.underlying44
  have A := Aside0.mk (show impl_InRange.f 7 0 7 = some true from impl_ColourText.inr 7 0 7)
  go_enter Tryd.func15, Tryd.ntmps15
  go_wp2_with (go_at_call 26; (with_reducible refine (impl_InRange.calls 7 0 7 true _ A.out).mono ?_); rintro e w' ⟨rfl, ⟨nd, rfl⟩⟩)
  go_ret
  exact ⟨rfl, pw_below_drewN (below_alloc (Below.refl _ _) _) _⟩
set_option maxRecDepth 100000 in
theorem impl_ColourText.out (a : Int) (h : impl_InRange.f a 0 7 = some false) (w : World) : Calls Tryd.prog 15 #[.int .i64 a] w fun e w' => e = .returned (.string ⟨#[]⟩) ∧ Below w.heap.size w w' := by
  have hu := Tryd.underlying44
  have A := Aside0.mk h
  clear h
  go_enter Tryd.func15, Tryd.ntmps15
  go_wp2_with (go_at_call 26; (with_reducible refine (impl_InRange.calls a 0 7 false _ A.out).mono ?_); rintro e w' ⟨rfl, ⟨nd, rfl⟩⟩)
  go_ret
  exact ⟨rfl, pw_below_drewN (below_alloc (Below.refl _ _) _) _⟩
theorem impl_ColourText.calls (a0 : Int) (r : ByteArray) (w : World) (h : impl_ColourText.f a0 = some r) :
    Calls Tryd.prog 15 #[.int .i64 a0] w fun e w' => e = .returned (.string r) ∧ Below w.heap.size w w' := by
  by_cases hr : 0 ≤ a0 ∧ a0 ≤ 7
  · have : a0 = 0 ∨ a0 = 1 ∨ a0 = 2 ∨ a0 = 3 ∨ a0 = 4 ∨ a0 = 5 ∨ a0 = 6 ∨ a0 = 7 := by omega
    rcases this with rfl | rfl | rfl | rfl | rfl | rfl | rfl | rfl
    · obtain rfl := Option.some.inj ((show some (⟨#[98, 108, 97, 99, 107]⟩ : ByteArray) = impl_ColourText.f 0 from rfl).trans h)
      exact impl_ColourText.at0 w
    · obtain rfl := Option.some.inj ((show some (⟨#[119, 104, 105, 116, 101]⟩ : ByteArray) = impl_ColourText.f 1 from rfl).trans h)
      exact impl_ColourText.at1 w
    · obtain rfl := Option.some.inj ((show some (⟨#[114, 101, 100]⟩ : ByteArray) = impl_ColourText.f 2 from rfl).trans h)
      exact impl_ColourText.at2 w
    · obtain rfl := Option.some.inj ((show some (⟨#[103, 114, 101, 101, 110]⟩ : ByteArray) = impl_ColourText.f 3 from rfl).trans h)
      exact impl_ColourText.at3 w
    · obtain rfl := Option.some.inj ((show some (⟨#[98, 108, 117, 101]⟩ : ByteArray) = impl_ColourText.f 4 from rfl).trans h)
      exact impl_ColourText.at4 w
    · obtain rfl := Option.some.inj ((show some (⟨#[121, 101, 108, 108, 111, 119]⟩ : ByteArray) = impl_ColourText.f 5 from rfl).trans h)
      exact impl_ColourText.at5 w
    · obtain rfl := Option.some.inj ((show some (⟨#[98, 114, 111, 119, 110]⟩ : ByteArray) = impl_ColourText.f 6 from rfl).trans h)
      exact impl_ColourText.at6 w
    · obtain rfl := Option.some.inj ((show some (⟨#[103, 114, 101, 121]⟩ : ByteArray) = impl_ColourText.f 7 from rfl).trans h)
      exact impl_ColourText.at7 w
  · have e : impl_InRange.f a0 0 7 = some false := by
      rw [impl_ColourText.inr]
      congr 1
      rw [Bool.eq_false_iff]
      intro hh
      simp at hh
      omega
    unfold impl_ColourText.f at h
    rw [e, Option.bind_some, if_neg (by decide)] at h
    obtain rfl := Option.some.inj h
    exact impl_ColourText.out a0 e w

end Go.Proofs.YtoocbgjcigadfadDoor.PFnThings
