/- The law FnExactKindText, walked by hand: at every int it returns true and changes nothing that lay in memory before; no conditions. -/
import Derived.Test.YtkgdofogalfhjaaPFnExactKindTextx1
namespace Go.Proofs.Ytkgdofogalfhjaa.PFnExactKindText
open Go.RowKit Go.Proofs.YtkgdofogalfhjaaW.PrintWords Go.Proofs.YtkgdofogalfhjaaW.PrintLast Go.Proofs.YtkgdofogalfhjaaW.PrintMore
set_option linter.unusedVariables false
set_option linter.unusedSimpArgs false

def tell (a : Int) : ByteArray := if a = 1 then ⟨#[98, 97, 103]⟩ else if a = 2 then ⟨#[99, 111, 97, 116]⟩ else if a = 3 then ⟨#[107, 101, 121, 115]⟩ else if a = 4 then ⟨#[109, 111, 110, 101, 121]⟩ else if a = 5 then ⟨#[112, 104, 111, 110, 101]⟩ else if a = 6 then ⟨#[117, 109, 98, 114, 101, 108, 108, 97]⟩ else if a = 7 then ⟨#[102, 111, 111, 100]⟩ else if a = 8 then ⟨#[111, 116, 104, 101, 114]⟩ else ⟨#[]⟩
theorem inr_eq (a b c : Int) : impl_InRange.f a b c = some (decide (b ≤ a) && decide (a ≤ c)) := by
  unfold impl_InRange.f
  by_cases h : b ≤ a <;> simp [h]
set_option maxRecDepth 100000 in
theorem impl_KindText.at1 (w : World) : Calls Try.prog 14 #[.int .i64 1] w fun e w' => e = .returned (.string ⟨#[98, 97, 103]⟩) ∧ Below w.heap.size w w' := by
  have hu40 := Try.underlying40
  have A := Aside0.mk (show impl_InRange.f 1 1 8 = some true from inr_eq 1 1 8)
  go_enter Try.func14, Try.ntmps14
  go_wp2_with (go_at_call 21; (with_reducible refine (impl_InRange.calls 1 1 8 true _ A.out).mono ?_); rintro e w' ⟨rfl, ⟨nd, rfl⟩⟩)
  go_ret
  exact ⟨rfl, pw_below_drewN (below_alloc (Below.refl _ _) _) _⟩
set_option maxRecDepth 100000 in
theorem impl_KindText.at2 (w : World) : Calls Try.prog 14 #[.int .i64 2] w fun e w' => e = .returned (.string ⟨#[99, 111, 97, 116]⟩) ∧ Below w.heap.size w w' := by
  have hu40 := Try.underlying40
  have A := Aside0.mk (show impl_InRange.f 2 1 8 = some true from inr_eq 2 1 8)
  go_enter Try.func14, Try.ntmps14
  go_wp2_with (go_at_call 21; (with_reducible refine (impl_InRange.calls 2 1 8 true _ A.out).mono ?_); rintro e w' ⟨rfl, ⟨nd, rfl⟩⟩)
  go_ret
  exact ⟨rfl, pw_below_drewN (below_alloc (Below.refl _ _) _) _⟩
set_option maxRecDepth 100000 in
theorem impl_KindText.at3 (w : World) : Calls Try.prog 14 #[.int .i64 3] w fun e w' => e = .returned (.string ⟨#[107, 101, 121, 115]⟩) ∧ Below w.heap.size w w' := by
  have hu40 := Try.underlying40
  have A := Aside0.mk (show impl_InRange.f 3 1 8 = some true from inr_eq 3 1 8)
  go_enter Try.func14, Try.ntmps14
  go_wp2_with (go_at_call 21; (with_reducible refine (impl_InRange.calls 3 1 8 true _ A.out).mono ?_); rintro e w' ⟨rfl, ⟨nd, rfl⟩⟩)
  go_ret
  exact ⟨rfl, pw_below_drewN (below_alloc (Below.refl _ _) _) _⟩
set_option maxRecDepth 100000 in
theorem impl_KindText.at4 (w : World) : Calls Try.prog 14 #[.int .i64 4] w fun e w' => e = .returned (.string ⟨#[109, 111, 110, 101, 121]⟩) ∧ Below w.heap.size w w' := by
  have hu40 := Try.underlying40
  have A := Aside0.mk (show impl_InRange.f 4 1 8 = some true from inr_eq 4 1 8)
  go_enter Try.func14, Try.ntmps14
  go_wp2_with (go_at_call 21; (with_reducible refine (impl_InRange.calls 4 1 8 true _ A.out).mono ?_); rintro e w' ⟨rfl, ⟨nd, rfl⟩⟩)
  go_ret
  exact ⟨rfl, pw_below_drewN (below_alloc (Below.refl _ _) _) _⟩
set_option maxRecDepth 100000 in
theorem impl_KindText.at5 (w : World) : Calls Try.prog 14 #[.int .i64 5] w fun e w' => e = .returned (.string ⟨#[112, 104, 111, 110, 101]⟩) ∧ Below w.heap.size w w' := by
  have hu40 := Try.underlying40
  have A := Aside0.mk (show impl_InRange.f 5 1 8 = some true from inr_eq 5 1 8)
  go_enter Try.func14, Try.ntmps14
  go_wp2_with (go_at_call 21; (with_reducible refine (impl_InRange.calls 5 1 8 true _ A.out).mono ?_); rintro e w' ⟨rfl, ⟨nd, rfl⟩⟩)
  go_ret
  exact ⟨rfl, pw_below_drewN (below_alloc (Below.refl _ _) _) _⟩
set_option maxRecDepth 100000 in
theorem impl_KindText.at6 (w : World) : Calls Try.prog 14 #[.int .i64 6] w fun e w' => e = .returned (.string ⟨#[117, 109, 98, 114, 101, 108, 108, 97]⟩) ∧ Below w.heap.size w w' := by
  have hu40 := Try.underlying40
  have A := Aside0.mk (show impl_InRange.f 6 1 8 = some true from inr_eq 6 1 8)
  go_enter Try.func14, Try.ntmps14
  go_wp2_with (go_at_call 21; (with_reducible refine (impl_InRange.calls 6 1 8 true _ A.out).mono ?_); rintro e w' ⟨rfl, ⟨nd, rfl⟩⟩)
  go_ret
  exact ⟨rfl, pw_below_drewN (below_alloc (Below.refl _ _) _) _⟩
set_option maxRecDepth 100000 in
theorem impl_KindText.at7 (w : World) : Calls Try.prog 14 #[.int .i64 7] w fun e w' => e = .returned (.string ⟨#[102, 111, 111, 100]⟩) ∧ Below w.heap.size w w' := by
  have hu40 := Try.underlying40
  have A := Aside0.mk (show impl_InRange.f 7 1 8 = some true from inr_eq 7 1 8)
  go_enter Try.func14, Try.ntmps14
  go_wp2_with (go_at_call 21; (with_reducible refine (impl_InRange.calls 7 1 8 true _ A.out).mono ?_); rintro e w' ⟨rfl, ⟨nd, rfl⟩⟩)
  go_ret
  exact ⟨rfl, pw_below_drewN (below_alloc (Below.refl _ _) _) _⟩
set_option maxRecDepth 100000 in
theorem impl_KindText.at8 (w : World) : Calls Try.prog 14 #[.int .i64 8] w fun e w' => e = .returned (.string ⟨#[111, 116, 104, 101, 114]⟩) ∧ Below w.heap.size w w' := by
  have hu40 := Try.underlying40
  have A := Aside0.mk (show impl_InRange.f 8 1 8 = some true from inr_eq 8 1 8)
  go_enter Try.func14, Try.ntmps14
  go_wp2_with (go_at_call 21; (with_reducible refine (impl_InRange.calls 8 1 8 true _ A.out).mono ?_); rintro e w' ⟨rfl, ⟨nd, rfl⟩⟩)
  go_ret
  exact ⟨rfl, pw_below_drewN (below_alloc (Below.refl _ _) _) _⟩
set_option maxRecDepth 100000 in
theorem impl_KindText.out (a : Int) (h : impl_InRange.f a 1 8 = some false) (w : World) : Calls Try.prog 14 #[.int .i64 a] w fun e w' => e = .returned (.string ⟨#[]⟩) ∧ Below w.heap.size w w' := by
  have hu40 := Try.underlying40
  have A := Aside0.mk h
  clear h
  go_enter Try.func14, Try.ntmps14
  go_wp2_with (go_at_call 21; (with_reducible refine (impl_InRange.calls a 1 8 false _ A.out).mono ?_); rintro e w' ⟨rfl, ⟨nd, rfl⟩⟩)
  go_ret
  exact ⟨rfl, pw_below_drewN (below_alloc (Below.refl _ _) _) _⟩
theorem impl_KindText.calls (a : Int) (w : World) : Calls Try.prog 14 #[.int .i64 a] w fun e w' => e = .returned (.string (tell a)) ∧ Below w.heap.size w w' := by
  by_cases h : 1 ≤ a ∧ a ≤ 8
  · have : a = 1 ∨ a = 2 ∨ a = 3 ∨ a = 4 ∨ a = 5 ∨ a = 6 ∨ a = 7 ∨ a = 8 := by omega
    rcases this with rfl | rfl | rfl | rfl | rfl | rfl | rfl | rfl
    · exact impl_KindText.at1 w
    · exact impl_KindText.at2 w
    · exact impl_KindText.at3 w
    · exact impl_KindText.at4 w
    · exact impl_KindText.at5 w
    · exact impl_KindText.at6 w
    · exact impl_KindText.at7 w
    · exact impl_KindText.at8 w
  · have e : tell a = ⟨#[]⟩ := by
      unfold tell
      rw [if_neg (by omega)]
      rw [if_neg (by omega)]
      rw [if_neg (by omega)]
      rw [if_neg (by omega)]
      rw [if_neg (by omega)]
      rw [if_neg (by omega)]
      rw [if_neg (by omega)]
      rw [if_neg (by omega)]
    rw [e]
    exact impl_KindText.out a (by rw [inr_eq]; congr 1; rw [Bool.eq_false_iff]; intro hh; simp at hh; omega) w
theorem spec_tells (a : Int) : spec_KindText.f a = some (tell a) := by
  unfold spec_KindText.f spec_l1In.f
  by_cases h : 1 ≤ a ∧ a ≤ 8
  · have : a = 1 ∨ a = 2 ∨ a = 3 ∨ a = 4 ∨ a = 5 ∨ a = 6 ∨ a = 7 ∨ a = 8 := by omega
    rcases this with rfl | rfl | rfl | rfl | rfl | rfl | rfl | rfl <;> rfl
  · have e : tell a = ⟨#[]⟩ := by
      unfold tell
      rw [if_neg (by omega)]
      rw [if_neg (by omega)]
      rw [if_neg (by omega)]
      rw [if_neg (by omega)]
      rw [if_neg (by omega)]
      rw [if_neg (by omega)]
      rw [if_neg (by omega)]
      rw [if_neg (by omega)]
    rw [e]
    by_cases h1 : 1 ≤ a
    · rw [if_pos h1, Option.bind_some, if_neg (by simp; omega)]
    · rw [if_neg h1, Option.bind_some, if_neg (by simp)]
set_option maxRecDepth 100000 in
theorem laws_FnExactKindText.walk (a0 : Int) (w : World) (w0 : (Lit.int .i64 a0).wf = true) : Calls Try.prog 5 #[.int .i64 a0] w fun e w' => e = .returned (.bool true) ∧ Below w.heap.size w w' := by
  clear w0
  have A := Aside0.mk (spec_tells a0)
  generalize hs : tell a0 = s at A
  have B := Aside0.mk (fun W => impl_KindText.calls a0 W)
  rw [hs] at B
  clear hs
  go_enter Try.func5, Try.ntmps5
  go_wp2_with (first | (go_at_call 13; (with_reducible refine (spec_KindText.calls a0 s _ A.out).mono ?_); rintro e w1 ⟨rfl, hb1⟩; have B1 := Aside0.mk hb1; clear hb1) | (go_at_call 14; (with_reducible refine (B.out _).mono ?_); rintro e w2 ⟨rfl, hb2⟩; have B2 := Aside0.mk hb2; clear hb2))
  go_ret
  exact ⟨rfl, below_step B1.out B2.out⟩
end Go.Proofs.Ytkgdofogalfhjaa.PFnExactKindText
