/- The printed law FnExactAreFinds, as a function of numbers and lists, answers true for all arguments that a call can be given; no conditions beyond the sizes that memory allows. -/
import Derived.Test.YtoocbgjcigadfabPFnExactAreFindsx6
namespace Go.Proofs.Ytoocbgjcigadfab.PureFnExactAreFinds
open Go.RowKit Go.Proofs.Ytoocbgjcigadfab.PFnExactAreFinds Go.Proofs.YtoocbgjcigadfabW.PrintWords Go.Proofs.YtoocbgjcigadfabW.PrintLast Go.Proofs.YtoocbgjcigadfabW.PrintMore
set_option linter.unusedVariables false
set_option linter.unusedSimpArgs false

/-- The pure statement of laws_FnExactAreFinds, typed by lawfill.py as print.sh types it where it does. -/
def laws_FnExactAreFinds.Pure : Prop := ∀ (l0 : List S76), l0.length ≤ maxLen → ∃ k, laws_FnExactAreFinds.f k l0 = some true

def inr (a b c : Int) : Bool := decide (b ≤ a) && decide (a ≤ c)
theorem inr_iff (a b c : Int) : inr a b c = true ↔ b ≤ a ∧ a ≤ c := by unfold inr; simp
theorem l1In_eq (a b c : Int) : spec_l1In.f a b c = some (inr a b c) := by
  unfold spec_l1In.f inr
  by_cases h : b ≤ a <;> simp [h]
theorem inRange_eq (a b c : Int) : impl_InRange.f a b c = some (inr a b c) := by
  unfold impl_InRange.f inr
  by_cases h : b ≤ a <;> simp [h]
theorem rd_at (xs : List Int) (i : Nat) (h : i < xs.length) : rd xs (i : Int) = xs[i] := by
  unfold rd
  simp [List.getD_eq_getElem?_getD, h]
theorem succ_at (i n : Nat) (h : i < n) (hn : n ≤ 4611686018427387904) : wrap64 ((i : Int) + 1) = ((i + 1 : Nat) : Int) := by
  unfold wrap64
  omega
theorem wrap_id (n : Int) (h0 : -9223372036854775808 ≤ n) (h1 : n ≤ 9223372036854775807) : wrap64 n = n := by
  unfold wrap64
  omega
def okThing (a b c d e : Int) : Bool := inr a 1 999 && inr b 1 8 && inr c 0 7 && inr d 1 50 && inr e 0 10000000
theorem sIsThing (a b c d e : Int) : spec_IsThing.f a b c d e = some (okThing a b c d e) := by
  unfold spec_IsThing.f okThing
  simp only [l1In_eq, Option.bind_some]
  cases inr a 1 999 <;> cases inr b 1 8 <;> cases inr c 0 7 <;> cases inr d 1 50 <;> simp
theorem iIsThing (a b c d e : Int) : impl_IsThing.f a b c d e = some (okThing a b c d e) := by
  unfold impl_IsThing.f okThing
  simp only [inRange_eq, Option.bind_some]
  cases inr a 1 999 <;> cases inr b 1 8 <;> cases inr c 0 7 <;> cases inr d 1 50 <;> simp
def okFind (a b c d e p h f : Int) : Bool := okThing a b c d e && inr p 1 30 && inr h 0 100000 && inr f 0 999
theorem sIsFind (a b c d e p h f : Int) : spec_IsFind.f a b c d e p h f = some (okFind a b c d e p h f) := by
  unfold spec_IsFind.f okFind
  simp only [sIsThing, l1In_eq, Option.bind_some]
  cases okThing a b c d e <;> cases inr p 1 30 <;> cases inr h 0 100000 <;> simp
theorem iIsFind (a b c d e p h f : Int) : impl_IsFind.f a b c d e p h f = some (okFind a b c d e p h f) := by
  unfold impl_IsFind.f okFind
  simp only [iIsThing, inRange_eq, Option.bind_some]
  cases okThing a b c d e <;> cases inr p 1 30 <;> cases inr h 0 100000 <;> simp
def chk (x : S72) : Bool := okFind x.f0.f0 x.f0.f1 x.f0.f2 x.f0.f3 x.f0.f4 x.f1 x.f2 x.f3
theorem sChk (x : S72) : spec_IsFind.f x.f0.f0 x.f0.f1 x.f0.f2 x.f0.f3 x.f0.f4 x.f1 x.f2 x.f3 = some (chk x) := sIsFind ..
theorem iChk (x : S72) : impl_IsFind.f x.f0.f0 x.f0.f1 x.f0.f2 x.f0.f3 x.f0.f4 x.f1 x.f2 x.f3 = some (chk x) := iIsFind ..
theorem eq_self (x : S72) : laws_eqFind.f x.f0.f0 x.f0.f1 x.f0.f2 x.f0.f3 x.f0.f4 x.f1 x.f2 x.f3 x.f0.f0 x.f0.f1 x.f0.f2 x.f0.f3 x.f0.f4 x.f1 x.f2 x.f3 = some true := by
  unfold laws_eqFind.f laws_eqThing.f
  simp
theorem rd_T76_at (xs : List S76) (i : Nat) (h : i < xs.length) : rd_T76 xs (i : Int) = xs[i] := by
  unfold rd_T76
  simp [List.getD_eq_getElem?_getD, h]
def laws_toFindS_conv (x : S76) : S72 := ⟨⟨x.f0.f0, x.f0.f1, x.f0.f2, x.f0.f3, x.f0.f4⟩, x.f1, x.f2, x.f3⟩
theorem laws_toFindS_loop (l : List S76) (hl : l.length ≤ 4611686018427387904) : ∀ (d k i : Nat) (out : List S72), i + d = l.length → d < k → out.length = l.length → (∀ j, j < i → out[j]? = (l[j]?).map laws_toFindS_conv) → laws_toFindS.l0 k l out (i : Int) = some (l.map laws_toFindS_conv) := by
  intro d
  induction d with
  | zero =>
    intro k i out hi hk ho hj
    obtain ⟨k, rfl⟩ : ∃ m, k = m + 1 := ⟨k - 1, by omega⟩
    simp only [laws_toFindS.l0]
    rw [if_neg (by omega)]
    congr 1
    apply List.ext_getElem?
    intro j
    rw [List.getElem?_map]
    rcases Nat.lt_or_ge j i with h | h
    · exact hj j h
    · rw [List.getElem?_eq_none (by omega), List.getElem?_eq_none (by omega)]
      rfl
  | succ d ih =>
    intro k i out hi hk ho hj
    obtain ⟨k, rfl⟩ : ∃ m, k = m + 1 := ⟨k - 1, by omega⟩
    have h1 : (i : Int) < (l.length : Int) := by omega
    have h2 : (0 : Int) ≤ (i : Int) := by omega
    have h3 : (i : Int) < (out.length : Int) := by omega
    simp only [laws_toFindS.l0, if_pos h1, if_pos h2, if_pos h3, laws_toFind.f, laws_toThing.f, Option.bind_some, succ_at i l.length (by omega) hl, rd_T76_at l i (by omega), show ((i : Int)).toNat = i by omega]
    refine ih k (i + 1) (out.set i (laws_toFindS_conv l[i])) (by omega) (by omega) (by simp [ho]) ?_
    intro j h
    rw [List.getElem?_set]
    by_cases e : i = j
    · subst e
      rw [if_pos rfl, if_pos (by omega), List.getElem?_eq_getElem (by omega)]
      rfl
    · rw [if_neg e]
      exact hj j (by omega)
theorem laws_toFindS_eq (k : Nat) (l : List S76) (hk : l.length < k) (hl : l.length ≤ 1048576) : laws_toFindS.f k l = some (l.map laws_toFindS_conv) := by
  unfold laws_toFindS.f
  rw [if_pos (by omega), if_pos (by omega)]
  exact laws_toFindS_loop l (by omega) l.length k 0 _ (by omega) (by omega) (by simp) (by omega)
theorem laws_eqFindS_loop (l : List S72) (hl : l.length ≤ 4611686018427387904) : ∀ (d k i : Nat), i + d = l.length → d < k → laws_eqFindS.l0 k l l (i : Int) = some true := by
  intro d
  induction d with
  | zero =>
    intro k i hi hk
    obtain ⟨k, rfl⟩ : ∃ m, k = m + 1 := ⟨k - 1, by omega⟩
    simp only [laws_eqFindS.l0]
    rw [if_neg (by omega)]
  | succ d ih =>
    intro k i hi hk
    obtain ⟨k, rfl⟩ : ∃ m, k = m + 1 := ⟨k - 1, by omega⟩
    have h1 : (i : Int) < (l.length : Int) := by omega
    have h2 : (0 : Int) ≤ (i : Int) := by omega
    simp only [laws_eqFindS.l0, if_pos h1, if_pos h2, eq_self, Option.bind_some, if_true, succ_at i l.length (by omega) hl]
    exact ih k (i + 1) (by omega) (by omega)
theorem laws_eqFindS_self (k : Nat) (l : List S72) (hk : l.length < k) (hl : l.length ≤ 4611686018427387904) : laws_eqFindS.f k l l = some true := by
  unfold laws_eqFindS.f
  rw [if_pos rfl]
  exact laws_eqFindS_loop l hl l.length k 0 (by omega) (by omega)
theorem spec_AreFinds_both (l : List S72) (hl : l.length ≤ 1048576) : ∀ (d k i : Nat), i + d = l.length → d < k → ∃ r, spec_AreFinds.l0 k l (i : Int) = some (r && decide ((l.length : Int) ≤ 20)) ∧ impl_AreFinds.l0 k l l (l.length : Int) (i : Int) = some r := by
  intro d
  induction d with
  | zero =>
    intro k i hi hk
    obtain ⟨k, rfl⟩ : ∃ m, k = m + 1 := ⟨k - 1, by omega⟩
    have h1 : ¬ (i : Int) < (l.length : Int) := by omega
    simp only [spec_AreFinds.l0, impl_AreFinds.l0, if_neg h1]
    exact ⟨true, by simp, rfl⟩
  | succ d ih =>
    intro k i hi hk
    obtain ⟨k, rfl⟩ : ∃ m, k = m + 1 := ⟨k - 1, by omega⟩
    obtain ⟨r, h3, h4⟩ := ih k (i + 1) (by omega) (by omega)
    have h1 : (i : Int) < (l.length : Int) := by omega
    have h2 : (0 : Int) ≤ (i : Int) := by omega
    simp only [spec_AreFinds.l0, impl_AreFinds.l0, sChk, iChk, Option.bind_some, if_pos h1, if_pos h2, succ_at i l.length (by omega) (by omega), h3, h4]
    cases chk (rd_T72 l (i : Int))
    · exact ⟨false, by simp, by simp⟩
    · simp only [if_true]
      by_cases hp : (i : Int) > 0
      · have h5 : wrap64 ((i : Int) - 1) = ((i - 1 : Nat) : Int) := by unfold wrap64; omega
        have h6 : (0 : Int) ≤ ((i - 1 : Nat) : Int) := by omega
        have h7 : ((i - 1 : Nat) : Int) < (l.length : Int) := by omega
        simp only [if_pos hp, h5, if_pos h6, if_pos h7, ge_iff_le]
        by_cases hq : (rd_T72 l (i : Int)).f0.f0 ≤ (rd_T72 l ((i - 1 : Nat) : Int)).f0.f0
        · simp only [if_pos hq]
          exact ⟨false, by simp, rfl⟩
        · simp only [if_neg hq]
          exact ⟨r, rfl, rfl⟩
      · simp only [if_neg hp]
        exact ⟨r, rfl, rfl⟩
theorem spec_AreFinds_same (k : Nat) (l : List S72) (hl : l.length ≤ 1048576) (hk : l.length < k) : ∃ r, spec_AreFinds.f k l = some r ∧ impl_AreFinds.f k l = some r := by
  obtain ⟨r, h1, h2⟩ := spec_AreFinds_both l hl l.length k 0 (by omega) hk
  unfold spec_AreFinds.f impl_AreFinds.f
  by_cases h : (l.length : Int) > 20
  · rw [if_pos h]
    refine ⟨false, ?_, rfl⟩
    rw [show (decide ((l.length : Int) ≤ 20)) = false by simp; omega, Bool.and_false] at h1
    exact h1
  · rw [if_neg h]
    refine ⟨r, ?_, h2⟩
    rw [show (decide ((l.length : Int) ≤ 20)) = true by simp; omega, Bool.and_true] at h1
    exact h1
theorem main : laws_FnExactAreFinds.Pure := by
  intro l hm
  refine ⟨l.length + 1, ?_⟩
  unfold laws_FnExactAreFinds.f laws_szFindS.f
  have hm' : l.length ≤ 9223372036854775807 := hm
  rw [wrap_id (1048576 - (l.length : Int)) (by omega) (by omega)]
  by_cases h1 : 1048576 - (l.length : Int) < 0
  · rw [if_pos h1, Option.bind_some, if_pos (by omega)]
  rw [if_neg h1, Option.bind_some, if_neg h1]
  have e1 := laws_toFindS_eq (l.length + 1) l (by omega) (by omega)
  have hlen : (l.map laws_toFindS_conv).length = l.length := by simp
  generalize l.map laws_toFindS_conv = x at e1 hlen
  obtain ⟨r, e2, e3⟩ := spec_AreFinds_same (l.length + 1) x (by omega) (by omega)
  have e4 := laws_eqFindS_self (l.length + 1) x (by omega) (by omega)
  simp only [e1, e2, e3, e4, Option.bind_some, bne_self_eq_false, Bool.false_eq_true, if_false, if_true]

end Go.Proofs.Ytoocbgjcigadfab.PureFnExactAreFinds
namespace Go.Proofs.Ytoocbgjcigadfab.Pure
/-- The pure statement. -/
theorem FnExactAreFinds : Go.Proofs.Ytoocbgjcigadfab.PureFnExactAreFinds.laws_FnExactAreFinds.Pure := Go.Proofs.Ytoocbgjcigadfab.PureFnExactAreFinds.main
end Go.Proofs.Ytoocbgjcigadfab.Pure
