/- The law FnExactColourText, walked by hand: at every int it returns true and changes nothing that lay in memory before; no conditions. -/
import Derived.Test.YtkgdofogalfhjaaPFnExactColourTextx1
namespace Go.Proofs.Ytkgdofogalfhjaa.PFnExactColourText
open Go.RowKit Go.Proofs.YtkgdofogalfhjaaW.PrintWords Go.Proofs.YtkgdofogalfhjaaW.PrintLast Go.Proofs.YtkgdofogalfhjaaW.PrintMore
set_option linter.unusedVariables false
set_option linter.unusedSimpArgs false

def tell (a : Int) : ByteArray := if a = 0 then ⟨#[98, 108, 97, 99, 107]⟩ else if a = 1 then ⟨#[119, 104, 105, 116, 101]⟩ else if a = 2 then ⟨#[114, 101, 100]⟩ else if a = 3 then ⟨#[103, 114, 101, 101, 110]⟩ else if a = 4 then ⟨#[98, 108, 117, 101]⟩ else if a = 5 then ⟨#[121, 101, 108, 108, 111, 119]⟩ else if a = 6 then ⟨#[98, 114, 111, 119, 110]⟩ else if a = 7 then ⟨#[103, 114, 101, 121]⟩ else ⟨#[]⟩
theorem inr_eq (a b c : Int) : impl_InRange.f a b c = some (decide (b ≤ a) && decide (a ≤ c)) := by
  unfold impl_InRange.f
  by_cases h : b ≤ a <;> simp [h]
set_option maxRecDepth 100000 in
theorem impl_ColourText.at0 (w : World) : Calls Try.prog 12 #[.int .i64 0] w fun e w' => e = .returned (.string ⟨#[98, 108, 97, 99, 107]⟩) ∧ Below w.heap.size w w' := by
  have hu40 := Try.underlying40
  have A := Aside0.mk (show impl_InRange.f 0 0 7 = some true from inr_eq 0 0 7)
  go_enter Try.func12, Try.ntmps12
  go_wp2_with (go_at_call 21; (with_reducible refine (impl_InRange.calls 0 0 7 true _ A.out).mono ?_); rintro e w' ⟨rfl, ⟨nd, rfl⟩⟩)
  go_ret
  exact ⟨rfl, pw_below_drewN (below_alloc (Below.refl _ _) _) _⟩
set_option maxRecDepth 100000 in
theorem impl_ColourText.at1 (w : World) : Calls Try.prog 12 #[.int .i64 1] w fun e w' => e = .returned (.string ⟨#[119, 104, 105, 116, 101]⟩) ∧ Below w.heap.size w w' := by
  have hu40 := Try.underlying40
  have A := Aside0.mk (show impl_InRange.f 1 0 7 = some true from inr_eq 1 0 7)
  go_enter Try.func12, Try.ntmps12
  go_wp2_with (go_at_call 21; (with_reducible refine (impl_InRange.calls 1 0 7 true _ A.out).mono ?_); rintro e w' ⟨rfl, ⟨nd, rfl⟩⟩)
  go_ret
  exact ⟨rfl, pw_below_drewN (below_alloc (Below.refl _ _) _) _⟩
set_option maxRecDepth 100000 in
theorem impl_ColourText.at2 (w : World) : Calls Try.prog 12 #[.int .i64 2] w fun e w' => e = .returned (.string ⟨#[114, 101, 100]⟩) ∧ Below w.heap.size w w' := by
  have hu40 := Try.underlying40
  have A := Aside0.mk (show impl_InRange.f 2 0 7 = some true from inr_eq 2 0 7)
  go_enter Try.func12, Try.ntmps12
  go_wp2_with (go_at_call 21; (with_reducible refine (impl_InRange.calls 2 0 7 true _ A.out).mono ?_); rintro e w' ⟨rfl, ⟨nd, rfl⟩⟩)
  go_ret
  exact ⟨rfl, pw_below_drewN (below_alloc (Below.refl _ _) _) _⟩
set_option maxRecDepth 100000 in
theorem impl_ColourText.at3 (w : World) : Calls Try.prog 12 #[.int .i64 3] w fun e w' => e = .returned (.string ⟨#[103, 114, 101, 101, 110]⟩) ∧ Below w.heap.size w w' := by
  have hu40 := Try.underlying40
  have A := Aside0.mk (show impl_InRange.f 3 0 7 = some true from inr_eq 3 0 7)
  go_enter Try.func12, Try.ntmps12
  go_wp2_with (go_at_call 21; (with_reducible refine (impl_InRange.calls 3 0 7 true _ A.out).mono ?_); rintro e w' ⟨rfl, ⟨nd, rfl⟩⟩)
  go_ret
  exact ⟨rfl, pw_below_drewN (below_alloc (Below.refl _ _) _) _⟩
set_option maxRecDepth 100000 in
theorem impl_ColourText.at4 (w : World) : Calls Try.prog 12 #[.int .i64 4] w fun e w' => e = .returned (.string ⟨#[98, 108, 117, 101]⟩) ∧ Below w.heap.size w w' := by
  have hu40 := Try.underlying40
  have A := Aside0.mk (show impl_InRange.f 4 0 7 = some true from inr_eq 4 0 7)
  go_enter Try.func12, Try.ntmps12
  go_wp2_with (go_at_call 21; (with_reducible refine (impl_InRange.calls 4 0 7 true _ A.out).mono ?_); rintro e w' ⟨rfl, ⟨nd, rfl⟩⟩)
  go_ret
  exact ⟨rfl, pw_below_drewN (below_alloc (Below.refl _ _) _) _⟩
set_option maxRecDepth 100000 in
theorem impl_ColourText.at5 (w : World) : Calls Try.prog 12 #[.int .i64 5] w fun e w' => e = .returned (.string ⟨#[121, 101, 108, 108, 111, 119]⟩) ∧ Below w.heap.size w w' := by
  have hu40 := Try.underlying40
  have A := Aside0.mk (show impl_InRange.f 5 0 7 = some true from inr_eq 5 0 7)
  go_enter Try.func12, Try.ntmps12
  go_wp2_with (go_at_call 21; (with_reducible refine (impl_InRange.calls 5 0 7 true _ A.out).mono ?_); rintro e w' ⟨rfl, ⟨nd, rfl⟩⟩)
  go_ret
  exact ⟨rfl, pw_below_drewN (below_alloc (Below.refl _ _) _) _⟩
set_option maxRecDepth 100000 in
theorem impl_ColourText.at6 (w : World) : Calls Try.prog 12 #[.int .i64 6] w fun e w' => e = .returned (.string ⟨#[98, 114, 111, 119, 110]⟩) ∧ Below w.heap.size w w' := by
  have hu40 := Try.underlying40
  have A := Aside0.mk (show impl_InRange.f 6 0 7 = some true from inr_eq 6 0 7)
  go_enter Try.func12, Try.ntmps12
  go_wp2_with (go_at_call 21; (with_reducible refine (impl_InRange.calls 6 0 7 true _ A.out).mono ?_); rintro e w' ⟨rfl, ⟨nd, rfl⟩⟩)
  go_ret
  exact ⟨rfl, pw_below_drewN (below_alloc (Below.refl _ _) _) _⟩
set_option maxRecDepth 100000 in
theorem impl_ColourText.at7 (w : World) : Calls Try.prog 12 #[.int .i64 7] w fun e w' => e = .returned (.string ⟨#[103, 114, 101, 121]⟩) ∧ Below w.heap.size w w' := by
  have hu40 := Try.underlying40
  have A := Aside0.mk (show impl_InRange.f 7 0 7 = some true from inr_eq 7 0 7)
  go_enter Try.func12, Try.ntmps12
  go_wp2_with (go_at_call 21; (with_reducible refine (impl_InRange.calls 7 0 7 true _ A.out).mono ?_); rintro e w' ⟨rfl, ⟨nd, rfl⟩⟩)
  go_ret
  exact ⟨rfl, pw_below_drewN (below_alloc (Below.refl _ _) _) _⟩
set_option maxRecDepth 100000 in
theorem impl_ColourText.out (a : Int) (h : impl_InRange.f a 0 7 = some false) (w : World) : Calls Try.prog 12 #[.int .i64 a] w fun e w' => e = .returned (.string ⟨#[]⟩) ∧ Below w.heap.size w w' := by
  have hu40 := Try.underlying40
  have A := Aside0.mk h
  clear h
  go_enter Try.func12, Try.ntmps12
  go_wp2_with (go_at_call 21; (with_reducible refine (impl_InRange.calls a 0 7 false _ A.out).mono ?_); rintro e w' ⟨rfl, ⟨nd, rfl⟩⟩)
  go_ret
  exact ⟨rfl, pw_below_drewN (below_alloc (Below.refl _ _) _) _⟩
theorem impl_ColourText.calls (a : Int) (w : World) : Calls Try.prog 12 #[.int .i64 a] w fun e w' => e = .returned (.string (tell a)) ∧ Below w.heap.size w w' := by
  by_cases h : 0 ≤ a ∧ a ≤ 7
  · have : a = 0 ∨ a = 1 ∨ a = 2 ∨ a = 3 ∨ a = 4 ∨ a = 5 ∨ a = 6 ∨ a = 7 := by omega
    rcases this with rfl | rfl | rfl | rfl | rfl | rfl | rfl | rfl
    · exact impl_ColourText.at0 w
    · exact impl_ColourText.at1 w
    · exact impl_ColourText.at2 w
    · exact impl_ColourText.at3 w
    · exact impl_ColourText.at4 w
    · exact impl_ColourText.at5 w
    · exact impl_ColourText.at6 w
    · exact impl_ColourText.at7 w
  · have e : tell a = ⟨#[]⟩ := by
      unfold tell
      rw [if_neg (by omega)]
      rw [if_neg (by omega)]
      rw [if_neg (by omega)]
      rw [if_neg (by omega)]
      rw [if_neg (by omega)]
      rw [if_neg (by omega)]
      rw [if_neg (by omega)]
      rw [if_neg (by omega)]
    rw [e]
    exact impl_ColourText.out a (by rw [inr_eq]; congr 1; rw [Bool.eq_false_iff]; intro hh; simp at hh; omega) w
theorem spec_tells (a : Int) : spec_ColourText.f a = some (tell a) := by
  unfold spec_ColourText.f spec_l1In.f
  by_cases h : 0 ≤ a ∧ a ≤ 7
  · have : a = 0 ∨ a = 1 ∨ a = 2 ∨ a = 3 ∨ a = 4 ∨ a = 5 ∨ a = 6 ∨ a = 7 := by omega
    rcases this with rfl | rfl | rfl | rfl | rfl | rfl | rfl | rfl <;> rfl
  · have e : tell a = ⟨#[]⟩ := by
      unfold tell
      rw [if_neg (by omega)]
      rw [if_neg (by omega)]
      rw [if_neg (by omega)]
      rw [if_neg (by omega)]
      rw [if_neg (by omega)]
      rw [if_neg (by omega)]
      rw [if_neg (by omega)]
      rw [if_neg (by omega)]
    rw [e]
    by_cases h1 : 0 ≤ a
    · rw [if_pos h1, Option.bind_some, if_neg (by simp; omega)]
    · rw [if_neg h1, Option.bind_some, if_neg (by simp)]
set_option maxRecDepth 100000 in
theorem laws_FnExactColourText.walk (a0 : Int) (w : World) (w0 : (Lit.int .i64 a0).wf = true) : Calls Try.prog 4 #[.int .i64 a0] w fun e w' => e = .returned (.bool true) ∧ Below w.heap.size w w' := by
  clear w0
  have A := Aside0.mk (spec_tells a0)
  generalize hs : tell a0 = s at A
  have B := Aside0.mk (fun W => impl_ColourText.calls a0 W)
  rw [hs] at B
  clear hs
  go_enter Try.func4, Try.ntmps4
  go_wp2_with (first | (go_at_call 11; (with_reducible refine (spec_ColourText.calls a0 s _ A.out).mono ?_); rintro e w1 ⟨rfl, hb1⟩; have B1 := Aside0.mk hb1; clear hb1) | (go_at_call 12; (with_reducible refine (B.out _).mono ?_); rintro e w2 ⟨rfl, hb2⟩; have B2 := Aside0.mk hb2; clear hb2))
  go_ret
  exact ⟨rfl, below_step B1.out B2.out⟩
end Go.Proofs.Ytkgdofogalfhjaa.PFnExactColourText
