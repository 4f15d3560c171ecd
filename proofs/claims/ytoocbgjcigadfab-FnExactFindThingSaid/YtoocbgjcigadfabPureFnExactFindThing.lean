/- The printed law FnExactFindThing, as a function of numbers and lists, answers true for all arguments that a call can be given; no conditions beyond the sizes that memory allows. -/
import Derived.Test.YtoocbgjcigadfabWkFnExactFindThingx2
namespace Go.Proofs.Ytoocbgjcigadfab.PureFnExactFindThing
open Go.RowKit Go.Proofs.Ytoocbgjcigadfab.PFnExactFindThing Go.Proofs.YtoocbgjcigadfabW.PrintWords Go.Proofs.YtoocbgjcigadfabW.PrintLast Go.Proofs.YtoocbgjcigadfabW.PrintMore
set_option linter.unusedVariables false
set_option linter.unusedSimpArgs false

/-- The pure statement of laws_FnExactFindThing, typed by lawfill.py as print.sh types it where it does. -/
def laws_FnExactFindThing.Pure : Prop := ∀ (l0 : List S76) (a1 : Int), l0.length ≤ maxLen → (Lit.int .i64 a1).wf = true → ∃ k, laws_FnExactFindThing.f k l0 a1 = some true

def inr (a b c : Int) : Bool := decide (b ≤ a) && decide (a ≤ c)
theorem inr_iff (a b c : Int) : inr a b c = true ↔ b ≤ a ∧ a ≤ c := by unfold inr; simp
theorem rd_at (xs : List Int) (i : Nat) (h : i < xs.length) : rd xs (i : Int) = xs[i] := by
  unfold rd
  simp [List.getD_eq_getElem?_getD, h]
theorem succ_at (i n : Nat) (h : i < n) (hn : n ≤ 4611686018427387904) : wrap64 ((i : Int) + 1) = ((i + 1 : Nat) : Int) := by
  unfold wrap64
  omega
theorem wrap_id (n : Int) (h0 : -9223372036854775808 ≤ n) (h1 : n ≤ 9223372036854775807) : wrap64 n = n := by
  unfold wrap64
  omega
theorem eq_self (x : S72) : laws_eqFind.f x.f0.f0 x.f0.f1 x.f0.f2 x.f0.f3 x.f0.f4 x.f1 x.f2 x.f3 x.f0.f0 x.f0.f1 x.f0.f2 x.f0.f3 x.f0.f4 x.f1 x.f2 x.f3 = some true := by
  unfold laws_eqFind.f laws_eqThing.f
  simp
theorem rd_T76_at (xs : List S76) (i : Nat) (h : i < xs.length) : rd_T76 xs (i : Int) = xs[i] := by
  unfold rd_T76
  simp [List.getD_eq_getElem?_getD, h]
def laws_toFindS_conv (x : S76) : S72 := ⟨⟨x.f0.f0, x.f0.f1, x.f0.f2, x.f0.f3, x.f0.f4⟩, x.f1, x.f2, x.f3⟩
theorem laws_toFindS_loop (l : List S76) (hl : l.length ≤ 4611686018427387904) : ∀ (d k i : Nat) (out : List S72), i + d = l.length → d < k → out.length = l.length → (∀ j, j < i → out[j]? = (l[j]?).map laws_toFindS_conv) → laws_toFindS.l0 k l out (i : Int) = some (l.map laws_toFindS_conv) := by
  intro d
  induction d with
  | zero =>
    intro k i out hi hk ho hj
    obtain ⟨k, rfl⟩ : ∃ m, k = m + 1 := ⟨k - 1, by omega⟩
    simp only [laws_toFindS.l0]
    rw [if_neg (by omega)]
    congr 1
    apply List.ext_getElem?
    intro j
    rw [List.getElem?_map]
    rcases Nat.lt_or_ge j i with h | h
    · exact hj j h
    · rw [List.getElem?_eq_none (by omega), List.getElem?_eq_none (by omega)]
      rfl
  | succ d ih =>
    intro k i out hi hk ho hj
    obtain ⟨k, rfl⟩ : ∃ m, k = m + 1 := ⟨k - 1, by omega⟩
    have h1 : (i : Int) < (l.length : Int) := by omega
    have h2 : (0 : Int) ≤ (i : Int) := by omega
    have h3 : (i : Int) < (out.length : Int) := by omega
    simp only [laws_toFindS.l0, if_pos h1, if_pos h2, if_pos h3, laws_toFind.f, laws_toThing.f, Option.bind_some, succ_at i l.length (by omega) hl, rd_T76_at l i (by omega), show ((i : Int)).toNat = i by omega]
    refine ih k (i + 1) (out.set i (laws_toFindS_conv l[i])) (by omega) (by omega) (by simp [ho]) ?_
    intro j h
    rw [List.getElem?_set]
    by_cases e : i = j
    · subst e
      rw [if_pos rfl, if_pos (by omega), List.getElem?_eq_getElem (by omega)]
      rfl
    · rw [if_neg e]
      exact hj j (by omega)
theorem laws_toFindS_eq (k : Nat) (l : List S76) (hk : l.length < k) (hl : l.length ≤ 1048576) : laws_toFindS.f k l = some (l.map laws_toFindS_conv) := by
  unfold laws_toFindS.f
  rw [if_pos (by omega), if_pos (by omega)]
  exact laws_toFindS_loop l (by omega) l.length k 0 _ (by omega) (by omega) (by simp) (by omega)
theorem laws_eqFindS_loop (l : List S72) (hl : l.length ≤ 4611686018427387904) : ∀ (d k i : Nat), i + d = l.length → d < k → laws_eqFindS.l0 k l l (i : Int) = some true := by
  intro d
  induction d with
  | zero =>
    intro k i hi hk
    obtain ⟨k, rfl⟩ : ∃ m, k = m + 1 := ⟨k - 1, by omega⟩
    simp only [laws_eqFindS.l0]
    rw [if_neg (by omega)]
  | succ d ih =>
    intro k i hi hk
    obtain ⟨k, rfl⟩ : ∃ m, k = m + 1 := ⟨k - 1, by omega⟩
    have h1 : (i : Int) < (l.length : Int) := by omega
    have h2 : (0 : Int) ≤ (i : Int) := by omega
    simp only [laws_eqFindS.l0, if_pos h1, if_pos h2, eq_self, Option.bind_some, if_true, succ_at i l.length (by omega) hl]
    exact ih k (i + 1) (by omega) (by omega)
theorem laws_eqFindS_self (k : Nat) (l : List S72) (hk : l.length < k) (hl : l.length ≤ 4611686018427387904) : laws_eqFindS.f k l l = some true := by
  unfold laws_eqFindS.f
  rw [if_pos rfl]
  exact laws_eqFindS_loop l hl l.length k 0 (by omega) (by omega)
theorem both (x : List S72) (a : Int) (hl : x.length ≤ 4611686018427387904) : ∀ (d k i : Nat), i + d = x.length → d < k → ∃ r, spec_FindThing.l0 k x a (i : Int) = some r ∧ impl_FindThing.l0 k x a (i : Int) = some r := by
  intro d
  induction d with
  | zero =>
    intro k i hi hk
    obtain ⟨k, rfl⟩ : ∃ m, k = m + 1 := ⟨k - 1, by omega⟩
    simp only [spec_FindThing.l0, impl_FindThing.l0]
    rw [if_neg (by omega), if_neg (by omega)]
    exact ⟨_, rfl, rfl⟩
  | succ d ih =>
    intro k i hi hk
    obtain ⟨k, rfl⟩ : ∃ m, k = m + 1 := ⟨k - 1, by omega⟩
    have h1 : (i : Int) < (x.length : Int) := by omega
    have h2 : (0 : Int) ≤ (i : Int) := by omega
    simp only [spec_FindThing.l0, impl_FindThing.l0, if_pos h1, if_pos h2, succ_at i x.length (by omega) hl]
    by_cases e : (rd_T72 x (i : Int)).f0.f0 = a
    · rw [if_pos e, if_pos e]
      exact ⟨_, rfl, rfl⟩
    · rw [if_neg e, if_neg e]
      exact ih k (i + 1) (by omega) (by omega)
theorem main : laws_FnExactFindThing.Pure := by
  intro l a1 hm hw
  refine ⟨l.length + 1, ?_⟩
  unfold laws_FnExactFindThing.f laws_szFindS.f
  have hm' : l.length ≤ 9223372036854775807 := hm
  rw [wrap_id (1048576 - (l.length : Int)) (by omega) (by omega)]
  by_cases h1 : 1048576 - (l.length : Int) < 0
  · rw [if_pos h1, Option.bind_some, if_pos (by omega)]
  rw [if_neg h1, Option.bind_some, if_neg h1]
  have e1 := laws_toFindS_eq (l.length + 1) l (by omega) (by omega)
  have hlen : (l.map laws_toFindS_conv).length = l.length := by simp
  generalize l.map laws_toFindS_conv = x at e1 hlen ⊢
  obtain ⟨r, e2, e3⟩ := both x a1 (by omega) x.length (l.length + 1) 0 (by omega) (by omega)
  have e2' : spec_FindThing.f (l.length + 1) x a1 = some r := e2
  have e3' : impl_FindThing.f (l.length + 1) x a1 = some r := e3
  have e4 := laws_eqFindS_self (l.length + 1) x (by omega) (by omega)
  simp only [e1, e2', e3', e4, Option.bind_some, if_true]

end Go.Proofs.Ytoocbgjcigadfab.PureFnExactFindThing
namespace Go.Proofs.Ytoocbgjcigadfab.Pure
/-- The pure statement. -/
theorem FnExactFindThing : Go.Proofs.Ytoocbgjcigadfab.PureFnExactFindThing.laws_FnExactFindThing.Pure := Go.Proofs.Ytoocbgjcigadfab.PureFnExactFindThing.main
end Go.Proofs.Ytoocbgjcigadfab.Pure
